import Derived.Test.YtlicndonhmcmmaaAwake2
import Derived.Test.YtlicndonhmcmmaaPrgLaw
namespace Go.Proofs.Ytlicndonhmcmmaa
open Go.RowKit Go.ChangeShapes Go.WideShapes
set_option linter.unusedVariables false
set_option linter.unusedSimpArgs false

/-- A slice of no element with room for c, just made, is the call's own. -/
theorem own_made {w : World} {t : TypeId} {z : Array Value} {size c base : Nat} (hb : base ≤ w.heap.size) (hc : c ≤ 1000000) : (w.alloc (.cells (madeCells z (c * size)) t)).ownsRow base t size (.slice (some ⟨w.heap.size, 0, none⟩) 0 c) 0 [] :=
  ⟨by simp, .inr ⟨_, c, madeCells z (c * size), rfl, hb, heap_alloc_new w _, Nat.zero_le _, by unfold maxLen; omega, size_madeCells _ _, by simp⟩⟩

set_option maxHeartbeats 4000000 in
set_option maxRecDepth 100000 in
theorem insnPieces_walk (A : Option Addr) (n c : Nat) (ps : List Ins) (hp : ps.length = n) (hm : n ≤ c ∧ c ≤ maxLen) (hok : ∀ i ∈ ps, i.ok) {W : World} (hM : InM W A (pc ps))
    (B : Option Addr) (m d : Nat) (qs : List Ins) (hq : qs.length = m) (hm' : m ≤ d ∧ d ≤ maxLen) (hok' : ∀ i ∈ qs, i.ok) (hN : InM W B (pc qs)) (I : Ins) (hI : I.ok) (_ : World) :
    Calls Try.prog 20 #[.slice A n c, .slice B m d, I.val] W fun e w' => e = .returned (.bool true) ∧ Ext W w' := by
  have HA := Lib.hid (fun W => awake02 W)
  have hx0 := (Ext.refl W).alloc (.cells #[.int .u16 I.code, .int .u8 I.jt, .int .u8 I.jf, .int .u32 I.k] 73)
  have B0 := Blk.new W 73 #[.int .u16 I.code, .int .u8 I.jt, .int .u8 I.jf, .int .u32 I.k]
  by_cases big : 100 < n
  · have d1 : (100 : Int) < n := by omega
    clear hp hm hok hM hq hm' hok' hN B0
    unfold Ins.val Ins.cells
    go_enter Try.func20, Try.ntmps20
    go_wp2_with fail
    refine (HA.out _).mono ?_
    rintro e w1 ⟨rfl, hx'⟩
    go_wp2_with fail
    go_ret
    exact ⟨rfl, hx0.trans hx'⟩
  by_cases big2 : 100 < m
  · have d1 : ¬ (100 : Int) < n := by omega
    have d2 : (100 : Int) < m := by omega
    clear hp hm hok hM hq hm' hok' hN B0
    unfold Ins.val Ins.cells
    go_enter Try.func20, Try.ntmps20
    go_wp2_with fail
    refine (HA.out _).mono ?_
    rintro e w1 ⟨rfl, hx'⟩
    go_wp2_with fail
    go_ret
    exact ⟨rfl, hx0.trans hx'⟩
  have b1 : n ≤ 100 := by omega
  have b2 : m ≤ 100 := by omega
  have d1 : ¬ (100 : Int) < n := by omega
  have d2 : ¬ (100 : Int) < m := by omega
  obtain ⟨i0, hi, hz0, hz1, hz2⟩ := info_parts info_ins
  have hmk : ∀ w : World, (Instr.makeSlice 67 (.int .i64 0) (.int .i64 ((n : Int) + m + 1))).run Try.prog w = .ok (.slice (some ⟨w.heap.size, 0, none⟩) 0 (n + m + 1)) (w.alloc (.cells (madeCells #[.int .u16 0, .int .u8 0, .int .u8 0, .int .u32 0] ((n + m + 1) * 4)) 73)) := fun w => by
    have := make_run 67 73 i0 _ Try.underlying67 hi hz0 .i64 .i64 0 (n + m + 1) (by omega) (by omega) (by omega) w
    rw [hz1] at this
    exact this
  have HI := Lib.hid hi; have HZ0 := Lib.hid hz0; have HZ1 := Lib.hid hz1; have HZ2 := Lib.hid hz2
  have L1 := Lib.hid (show (pc ps).length = n * 4 by rw [pc_length]; omega)
  have L2 := Lib.hid (show (pc qs).length = m * 4 by rw [pc_length]; omega)
  have O1 := Lib.hid (pc_one ps)
  have O2 := Lib.hid (pc_one qs)
  have P1 := Lib.hid (fun W h => printI A n c ps W hp (by omega) hok h)
  have P2 := Lib.hid (fun W h => printI B m d qs W hq (by omega) hok' h)
  have okb : ∀ i ∈ ps ++ qs, i.ok := fun i hi => by
    rcases List.mem_append.1 hi with h | h
    · exact hok i h
    · exact hok' i h
  have P3 := Lib.hid (fun C c W h => printI C (n + m) c (ps ++ qs) W (by rw [List.length_append]; omega) (by omega) okb h)
  have P4 := Lib.hid (fun C c W h => printI C (n + m + 1) c (ps ++ qs ++ [I]) W (by rw [List.length_append, List.length_append]; simp; omega) (by omega) (fun i hi => by
    rcases List.mem_append.1 hi with h | h
    · exact okb i h
    · rw [List.mem_singleton.1 h]; exact hI) h)
  rw [pb_append] at P3
  rw [pb_append, pb_append, show pb [I] = I.bytes from by simp [pb]] at P4
  have y1 := pb_byt ps hok
  have y2 := pb_byt qs hok'
  have y3 : Byt I.bytes := by have := pb_byt [I] (fun i hi => by rw [List.mem_singleton.1 hi]; exact hI); simpa [pb] using this
  have l1 := pb_length ps
  have l2 := pb_length qs
  have l3 := bytes_len I
  have C1 := Lib.hid (fun L X Y c d W h a b => cat2 L X Y (8 * n) c (8 * m) d (pb ps) (pb qs) W h (by omega) (by omega) a b (by omega))
  have C2 := Lib.hid (fun L X Y c d W h a b => cat2 L X Y (8 * (n + m)) c 8 d (pb ps ++ pb qs) I.bytes W h (by rw [List.length_append]; omega) l3 a b (by omega))
  have S1 := Lib.hid (fun X Y c d W h k => keep (wordsSame X Y (8 * (n + m)) c (8 * n + 8 * m) d (pb ps ++ pb qs) (pb ps ++ pb qs) W (by rw [List.length_append]; omega) (by rw [List.length_append]; omega) (y1.append y2) (y1.append y2) h k))
  rw [show decide (pb ps ++ pb qs = pb ps ++ pb qs) = true from decide_eq_true rfl] at S1
  have S2 := Lib.hid (fun X Y c d W h k => keep (wordsSame X Y (8 * (n + m + 1)) c (8 * (n + m) + 8) d (pb ps ++ pb qs ++ I.bytes) (pb ps ++ pb qs ++ I.bytes) W (by rw [List.length_append, List.length_append]; omega) (by rw [List.length_append, List.length_append]; omega) ((y1.append y2).append y3) ((y1.append y2).append y3) h k))
  rw [show decide (pb ps ++ pb qs ++ I.bytes = pb ps ++ pb qs ++ I.bytes) = true from decide_eq_true rfl] at S2
  have EN := Lib.hid (fun W => encode_any I hI W)
  have Q1 := Lib.hid (fun W h k => sameI A B n c m d ps qs W hp hq (by omega) h k)
  have Q2 := Lib.hid (fun X Y c d W h k => keep (wordsSame X Y (8 * n) c (8 * m) d (pb ps) (pb qs) W (by omega) (by omega) y1 y2 h k))
  rw [show decide (pb ps = pb qs) = decide (ps = qs) from decide_eq_decide.2 (pb_inj ps qs hok hok')] at Q2
  have HM := Lib.hid hM
  have HN := Lib.hid hN
  clear hi hz0 hz1 hz2 hp hm hok hM hq hm' hok' hN okb y1 y2 y3 l1 l2 l3 big big2 hI
  have hpc : pc (ps ++ qs ++ [I]) = pc ps ++ pc qs ++ [.int .u16 I.code, .int .u8 I.jt, .int .u8 I.jf, .int .u32 I.k] := by rw [pc_append, pc_append]; rfl
  have hpc2 : pc (ps ++ qs) = pc ps ++ pc qs := pc_append _ _
  have HP1 := Lib.hid hpc; have HP2 := Lib.hid hpc2
  clear hpc hpc2
  obtain ⟨ic, ij, ik, il⟩ := I
  simp only [Ins.val, Ins.cells] at *
  generalize (Ins.mk ic ij ik il).bytes = ib at *
  generalize pb ps = x at *
  generalize pb qs = y at *
  generalize decide (ps = qs) = eq at *
  have sb : (eq == eq) = true := by simp
  go_enter Try.func20, Try.ntmps20
  go_wp2_with fail
  generalize W.alloc (.cells #[.int .u16 ic, .int .u8 ij, .int .u8 ik, .int .u32 il] 73) = W0 at *
  have HB0 := Lib.hid B0
  clear B0
  generalize W.heap.size = g at *
  refine (HA.out _).mono ?_
  rintro e w1 ⟨rfl, hy⟩
  have ho0 := own_made (w := w1) (t := 73) (z := #[.int .u16 0, .int .u8 0, .int .u8 0, .int .u32 0]) (size := 4) (c := n + m + 1) hy.size (by omega)
  have hx2 := hy.alloc (.cells (madeCells #[.int .u16 0, .int .u8 0, .int .u8 0, .int .u32 0] ((n + m + 1) * 4)) 73)
  go_wp2_with (first
    | (refine wpList_app rfl (.tmp 33) (.tmp 34) 67 rfl W0.heap.size 73 i0 _ 4 8 Try.underlying67 HI.out HZ0.out HZ1.out HZ2.out rfl (by decide) _ 0 (n + m + 1) [] rfl ho0 A n c (pc ps) rfl L1.out (HM.out.ext (hx0.trans hx2)) O1.out (by omega) (by decide) hx2.size ?_; intro A1 c1 w2 ho1 hg1 hzz; clear hzz; rw [Nat.zero_add, List.nil_append] at ho1; have hx3 := hx2.app ho0 (Nat.le_refl _) hg1)
    | (refine wpList_app rfl (.tmp 36) (.tmp 37) 67 rfl W0.heap.size 73 i0 _ 4 8 Try.underlying67 HI.out HZ0.out HZ1.out HZ2.out rfl (by decide) A1 n c1 _ rfl ho1 B m d (pc qs) rfl L2.out (HN.out.ext (hx0.trans hx3)) O2.out (by omega) (by decide) hx3.size ?_; intro A2 c2 w3 ho2 hg2 hzz; clear hzz; have hx4 := hx3.app ho1 (Nat.le_refl _) hg2))
  rw [← HP2.out] at ho2
  replace hy := hx4
  clear ho0 ho1 hg1 hg2 hx2 hx3 hx4
  refine (P1.out _ (HM.out.ext (hx0.trans hy))).mono ?_
  rintro e w4 ⟨X, xc, rfl, hoX, hx'⟩
  replace ho2 := own_ext ho2 hx'
  replace hy := hy.trans hx'
  clear hx'
  go_wp2_with fail
  refine (P2.out _ (HN.out.ext (hx0.trans hy))).mono ?_
  rintro e w5 ⟨Y, yc, rfl, hoY, hx'⟩
  replace ho2 := own_ext ho2 hx'
  replace hoX := own_ext hoX hx'
  replace hy := hy.trans hx'
  clear hx'
  go_wp2_with fail
  refine (P3.out _ _ _ (own_inM ho2)).mono ?_
  rintro e w6 ⟨Z, zc, rfl, hoZ, hx'⟩
  replace ho2 := own_ext ho2 hx'
  replace hoX := own_ext hoX hx'
  replace hoY := own_ext hoY hx'
  replace hy := hy.trans hx'
  clear hx'
  have q0 := (HB0.out.ext hy).cell 0
  have q1 := (HB0.out.ext hy).cell 1
  have q2 := (HB0.out.ext hy).cell 2
  have q3 := (HB0.out.ext hy).cell 3
  have hx7 := (Ext.refl w6).alloc (.cells #[.int .u16 ic, .int .u8 ij, .int .u8 ik, .int .u32 il] 73)
  have ho3 := own_ext ho2 hx7
  go_wp2_with (refine wpList_app rfl (.tmp 54) (.tmp 56) 67 rfl W0.heap.size 73 i0 _ 4 8 Try.underlying67 HI.out HZ0.out HZ1.out HZ2.out rfl (by decide) A2 (n + m) c2 _ rfl ho3 _ 1 1 [.int .u16 ic, .int .u8 ij, .int .u8 ik, .int .u32 il] rfl rfl (inM_new rfl) (by simp [Value.oneCell']) (by omega) (by decide) (hy.trans hx7).size ?_; intro A3 c3 w7 ho4 hg3 hzz; clear hzz; rw [HP2.out, ← HP1.out] at ho4; have hy7 := (hy.trans hx7).app ho3 (Nat.le_refl _) hg3)
  have hmX := own_inM (own_apart (own_ext hoX hx7) ho3 (by decide) hg3)
  have hmY := own_inM (own_apart (own_ext hoY hx7) ho3 (by decide) hg3)
  have hmZ := own_inM (own_apart (own_ext hoZ hx7) ho3 (by decide) hg3)
  clear ho2 ho3 hg3 hx7 q0 q1 q2 q3 hoX hoY hoZ
  replace hy := hy7
  clear hy7
  refine (P4.out _ _ _ (own_inM ho4)).mono ?_
  rintro e w8 ⟨V, vc, rfl, hoV, hx'⟩
  have hmV := own_inM hoV
  replace hmX := hmX.ext hx'
  replace hmY := hmY.ext hx'
  replace hmZ := hmZ.ext hx'
  replace hy := hy.trans hx'
  clear hx' hoV ho4
  have ha := (Ext.refl w8).alloc (.cells #[.slice X (8 * n) xc, .slice Y (8 * m) yc] 23)
  go_wp2_with fail
  refine (C1.out _ _ _ _ _ _ (inM_new rfl) (hmX.ext ha) (hmY.ext ha)).mono ?_
  rintro e w9 ⟨Q, qc, rfl, hmQ, hx'⟩
  replace hx' := ha.trans hx'
  replace hmX := hmX.ext hx'
  replace hmY := hmY.ext hx'
  replace hmZ := hmZ.ext hx'
  replace hmV := hmV.ext hx'
  replace hy := hy.trans hx'
  clear hx' ha
  go_wp2_with fail
  refine (S1.out _ _ _ _ _ hmZ hmQ).mono ?_
  rintro e w10 ⟨rfl, hx'⟩
  replace hmX := hmX.ext hx'
  replace hmY := hmY.ext hx'
  replace hmZ := hmZ.ext hx'
  replace hmV := hmV.ext hx'
  replace hy := hy.trans hx'
  clear hx' hmQ
  have q0 := (HB0.out.ext hy).cell 0
  have q1 := (HB0.out.ext hy).cell 1
  have q2 := (HB0.out.ext hy).cell 2
  have q3 := (HB0.out.ext hy).cell 3
  go_wp2_with fail
  refine (EN.out _).mono ?_
  rintro e w11 ⟨E, ec, rfl, hoE, hx'⟩
  have hmE := own_inM hoE
  replace hmX := hmX.ext hx'
  replace hmY := hmY.ext hx'
  replace hmZ := hmZ.ext hx'
  replace hmV := hmV.ext hx'
  replace hy := hy.trans hx'
  clear hx' hoE q0 q1 q2 q3
  have ha := (Ext.refl w11).alloc (.cells #[.slice Z (8 * (n + m)) zc, .slice E 8 ec] 23)
  go_wp2_with fail
  refine (C2.out _ _ _ _ _ _ (inM_new rfl) (hmZ.ext ha) (hmE.ext ha)).mono ?_
  rintro e w12 ⟨Q, qc, rfl, hmQ, hx'⟩
  replace hx' := ha.trans hx'
  replace hmX := hmX.ext hx'
  replace hmY := hmY.ext hx'
  replace hmV := hmV.ext hx'
  replace hy := hy.trans hx'
  clear hx' ha hmE hmZ
  go_wp2_with fail
  refine (S2.out _ _ _ _ _ hmV hmQ).mono ?_
  rintro e w13 ⟨rfl, hx'⟩
  replace hmX := hmX.ext hx'
  replace hmY := hmY.ext hx'
  replace hy := hy.trans hx'
  clear hx' hmQ hmV
  go_wp2_with fail
  refine (Q1.out _ (HM.out.ext (hx0.trans hy)) (HN.out.ext (hx0.trans hy))).mono ?_
  rintro e w14 ⟨rfl, hx'⟩
  replace hmX := hmX.ext hx'
  replace hmY := hmY.ext hx'
  replace hy := hy.trans hx'
  clear hx'
  go_wp2_with fail
  refine (Q2.out _ _ _ _ _ hmX hmY).mono ?_
  rintro e w15 ⟨rfl, hx'⟩
  go_wp2_with fail
  go_ret
  exact ⟨rfl, hx0.trans (hy.trans hx')⟩
end Go.Proofs.Ytlicndonhmcmmaa
