import Derived.Test.YtkejcfbhikpibaaAwake4
import Derived.Test.YtkejcfbhikpibaaVm14
import Derived.Test.YtkejcfbhikpibaaWalkVm1
import Derived.Test.YtkejcfbhikpibaaWalkInsn7
/- The law VmBehind, walked. -/
namespace Go.Proofs.Ytkejcfbhikpibaa
open Go.RowKit Go.ChangeShapes Go.WideShapes
set_option linter.unusedVariables false
set_option linter.unusedSimpArgs false

set_option maxHeartbeats 4000000 in
set_option maxRecDepth 100000 in
theorem vmBehind_walk (A : Option Addr) (n c : Nat) (ps : List Ins) (hp : ps.length = n) (hm : n ≤ c ∧ c ≤ maxLen) (hok : ∀ i ∈ ps, i.ok) {w : World} (hM : InM w A (pc ps))
    (B : Option Addr) (m cb : Nat) (qs : List Ins) (hq : qs.length = m) (hm' : m ≤ cb ∧ cb ≤ maxLen) (hok' : ∀ i ∈ qs, i.ok) (hN : InM w B (pc qs)) (d : Dat) (hd : d.ok) (_ : World) :
    Calls Try.prog 8 #[.slice A n c, .slice B m cb, d.val] w fun e w' => e = .returned (.bool true) ∧ Ext w w' := by
  have HM := Lib.hid hM
  have HN := Lib.hid hN
  have HA := Lib.hid (fun W => awake04 W)
  by_cases big : 300 < n
  · have d1 : (300 : Int) < n := by omega
    clear hp hm hok hM hq hm' hok' hN hd
    obtain ⟨nr, arch, ip, a0, a1, a2, a3, a4, a5⟩ := d
    have bd : Blk (w.alloc (.cells #[.int .u32 nr, .int .u32 arch, .int .u64 ip, .int .u64 a0, .int .u64 a1, .int .u64 a2, .int .u64 a3, .int .u64 a4, .int .u64 a5] 36)) w.heap.size 36 #[.int .u32 nr, .int .u32 arch, .int .u64 ip, .int .u64 a0, .int .u64 a1, .int .u64 a2, .int .u64 a3, .int .u64 a4, .int .u64 a5] := Blk.new w _ _
    have hx := (Ext.refl w).alloc (.cells #[.int .u32 nr, .int .u32 arch, .int .u64 ip, .int .u64 a0, .int .u64 a1, .int .u64 a2, .int .u64 a3, .int .u64 a4, .int .u64 a5] 36)
    go_enter Try.func8, Try.ntmps8
    go_wp2_with fail
    refine (HA.out _).mono ?_
    rintro e w1 ⟨rfl, hx'⟩
    replace hx := hx.trans hx'
    replace bd := bd.ext hx'
    clear hx'
    go_wp2_with fail
    go_ret
    exact ⟨rfl, hx⟩
  by_cases big2 : 50 < m
  · have d1 : decide ((300 : Int) < n) = false := by simp; omega
    have d2 : (50 : Int) < m := by omega
    clear hp hm hok hM hq hm' hok' hN hd
    obtain ⟨nr, arch, ip, a0, a1, a2, a3, a4, a5⟩ := d
    have bd : Blk (w.alloc (.cells #[.int .u32 nr, .int .u32 arch, .int .u64 ip, .int .u64 a0, .int .u64 a1, .int .u64 a2, .int .u64 a3, .int .u64 a4, .int .u64 a5] 36)) w.heap.size 36 #[.int .u32 nr, .int .u32 arch, .int .u64 ip, .int .u64 a0, .int .u64 a1, .int .u64 a2, .int .u64 a3, .int .u64 a4, .int .u64 a5] := Blk.new w _ _
    have hx := (Ext.refl w).alloc (.cells #[.int .u32 nr, .int .u32 arch, .int .u64 ip, .int .u64 a0, .int .u64 a1, .int .u64 a2, .int .u64 a3, .int .u64 a4, .int .u64 a5] 36)
    go_enter Try.func8, Try.ntmps8
    go_wp2_with fail
    refine (HA.out _).mono ?_
    rintro e w1 ⟨rfl, hx'⟩
    replace hx := hx.trans hx'
    replace bd := bd.ext hx'
    clear hx'
    go_wp2_with fail
    go_ret
    exact ⟨rfl, hx⟩
  have d1 : decide ((300 : Int) < n) = false := by simp; omega
  have d2 : decide ((50 : Int) < m) = false := by simp; omega
  have okab : ∀ i ∈ ps ++ qs, i.ok := fun i hi => by
    rcases List.mem_append.1 hi with g | g
    · exact hok i g
    · exact hok' i g
  have H2 := Lib.hid (fun W h => vmRun A n c ps hp hok (by omega) d hd W h)
  have H3 := Lib.hid (fun X x W h => vmRun X (n + m) x (ps ++ qs) (by rw [List.length_append]; omega) okab (by omega) d hd W h)
  have HE := Lib.hid (fun h => run_more d ps qs h)
  obtain ⟨i0, hi, hz0, hz1, hz2⟩ := info_parts info_ins
  have hmk : ∀ w : World, (Instr.makeSlice 37 (.int .i64 0) (.int .i64 ((n : Int) + m))).run Try.prog w = .ok (.slice (some ⟨w.heap.size, 0, none⟩) 0 (n + m)) (w.alloc (.cells (madeCells #[.int .u16 0, .int .u8 0, .int .u8 0, .int .u32 0] ((n + m) * 4)) 32)) := fun w => by
    have := make_run 37 32 i0 _ Try.underlying37 hi hz0 .i64 .i64 0 (n + m) (by omega) (by omega) (by omega) w
    rw [hz1] at this
    exact this
  have HI := Lib.hid hi; have HZ0 := Lib.hid hz0; have HZ1 := Lib.hid hz1; have HZ2 := Lib.hid hz2
  have L1 := Lib.hid (show (pc ps).length = n * 4 by rw [pc_length]; omega)
  have L2 := Lib.hid (show (pc qs).length = m * 4 by rw [pc_length]; omega)
  have U1 := Lib.hid (pc_one ps)
  have U2 := Lib.hid (pc_one qs)
  have HPC := Lib.hid (pc_append ps qs)
  have c0 : (n : Int) ≤ 300 := by omega
  have c1 : (m : Int) ≤ 50 := by omega
  have c2 : (0 : Int) ≤ n := by omega
  have c3 : (0 : Int) ≤ m := by omega
  have c4 : n + m ≤ 1000000 := by omega
  clear hi hz0 hz1 hz2 hp hm hok hM hq hm' hok' hN hd okab big big2
  generalize runR d (ps ++ qs) = R2 at *
  generalize runR d ps = R1 at *
  obtain ⟨x, k, tr, er⟩ := R1
  have HS : (er = 0 ∧ R2 = ⟨x, k, tr, er⟩) ∨ ¬ er = 0 := by
    by_cases h : er = 0
    · exact .inl ⟨h, HE.out h⟩
    · exact .inr h
  clear HE
  have s1 : (x == x) = true := by simp
  have s2 : ((k : Int) == k) = true := by simp
  obtain ⟨nr, arch, ip, a0, a1, a2, a3, a4, a5⟩ := d
  have bd : Blk (w.alloc (.cells #[.int .u32 nr, .int .u32 arch, .int .u64 ip, .int .u64 a0, .int .u64 a1, .int .u64 a2, .int .u64 a3, .int .u64 a4, .int .u64 a5] 36)) w.heap.size 36 #[.int .u32 nr, .int .u32 arch, .int .u64 ip, .int .u64 a0, .int .u64 a1, .int .u64 a2, .int .u64 a3, .int .u64 a4, .int .u64 a5] := Blk.new w _ _
  have hx := (Ext.refl w).alloc (.cells #[.int .u32 nr, .int .u32 arch, .int .u64 ip, .int .u64 a0, .int .u64 a1, .int .u64 a2, .int .u64 a3, .int .u64 a4, .int .u64 a5] 36)
  go_enter Try.func8, Try.ntmps8
  go_wp2_with fail
  refine (HA.out _).mono ?_
  rintro e w1 ⟨rfl, hx'⟩
  replace hx := hx.trans hx'
  replace bd := bd.ext hx'
  clear hx'
  dsimp only [Dat.val] at H2 H3
  have r0 := (bd).cell 0
  have r1 := (bd).cell 1
  have r2 := (bd).cell 2
  have r3 := (bd).cell 3
  have r4 := (bd).cell 4
  have r5 := (bd).cell 5
  have r6 := (bd).cell 6
  have r7 := (bd).cell 7
  have r8 := (bd).cell 8
  go_wp2_with fail
  clear r0 r1 r2 r3 r4 r5 r6 r7 r8
  refine (H2.out _ (HM.out.ext hx)).mono ?_
  rintro e w2 ⟨rfl, hx'⟩
  replace hx := hx.trans hx'
  replace bd := bd.ext hx'
  clear hx' H2
  have hf := Ext.refl w2
  have ho0 := own_made (w := w2) (t := 32) (z := #[.int .u16 0, .int .u8 0, .int .u8 0, .int .u32 0]) (size := 4) (c := n + m) hf.size c4
  have hf2 := hf.alloc (.cells (madeCells #[.int .u16 0, .int .u8 0, .int .u8 0, .int .u32 0] ((n + m) * 4)) 32)
  have HM2 := Lib.hid (fun W' (h : Ext w2 W') => HM.out.ext (hx.trans h))
  have HN2 := Lib.hid (fun W' (h : Ext w2 W') => HN.out.ext (hx.trans h))
  have HBD := Lib.hid (fun W' (h : Ext w2 W') => bd.ext h)
  clear bd
  go_wp2_with (first
    | (refine wpList_app rfl (.tmp 37) (.tmp 38) 37 rfl w2.heap.size 32 i0 _ 4 8 Try.underlying37 HI.out HZ0.out HZ1.out HZ2.out rfl (by decide) _ 0 (n + m) [] rfl ho0 _ n c (pc ps) rfl L1.out (HM2.out _ hf2) U1.out (by omega) (by decide) hf2.size ?_; intro A1 c1 w4 ho1 hg1 hzz; clear hzz; rw [Nat.zero_add, List.nil_append] at ho1; have hf3 := hf2.app ho0 (Nat.le_refl _) hg1)
    | (refine wpList_app rfl (.tmp 40) (.tmp 41) 37 rfl w2.heap.size 32 i0 _ 4 8 Try.underlying37 HI.out HZ0.out HZ1.out HZ2.out rfl (by decide) A1 n c1 _ rfl ho1 B m cb (pc qs) rfl L2.out (HN2.out _ hf3) U2.out (by omega) (by decide) hf3.size ?_; intro A2 c2 w5 ho2 hg2 hzz; clear hzz; have hf4 := hf3.app ho1 (Nat.le_refl _) hg2; have r0 := (HBD.out _ hf4).cell 0; have r1 := (HBD.out _ hf4).cell 1; have r2 := (HBD.out _ hf4).cell 2; have r3 := (HBD.out _ hf4).cell 3; have r4 := (HBD.out _ hf4).cell 4; have r5 := (HBD.out _ hf4).cell 5; have r6 := (HBD.out _ hf4).cell 6; have r7 := (HBD.out _ hf4).cell 7; have r8 := (HBD.out _ hf4).cell 8))
  rw [← HPC.out] at ho2
  clear ho0 ho1 hg1 hg2 hf hf2 hf3 r0 r1 r2 r3 r4 r5 r6 r7 r8
  refine (H3.out _ _ _ (own_inM ho2)).mono ?_
  rintro e w6 ⟨rfl, hx'⟩
  replace hx := hx.trans (hf4.trans hx')
  clear hx' hf4 ho2 H3
  rcases HS with ⟨rfl, rfl⟩ | h
  · go_wp2_with fail
    go_ret
    exact ⟨rfl, hx⟩
  · have s3 : (er != 0) = true := by simpa using h
    clear h
    go_wp2_with fail
    go_ret
    exact ⟨rfl, hx⟩
end Go.Proofs.Ytkejcfbhikpibaa
