import Derived.Test.YtkejcfbhikpibaaHalt1
import Derived.Test.YtkejcfbhikpibaaAwake6
import Derived.Test.YtkejcfbhikpibaaVm12
/- The law CheckHalts, walked. -/
namespace Go.Proofs.Ytkejcfbhikpibaa
open Go.RowKit Go.ChangeShapes Go.WideShapes
set_option linter.unusedVariables false
set_option linter.unusedSimpArgs false

set_option maxHeartbeats 4000000 in
set_option maxRecDepth 100000 in
theorem checkHalts_walk (A : Option Addr) (n c : Nat) (ps : List Ins) (hp : ps.length = n) (hm : n ≤ c ∧ c ≤ maxLen) (hok : ∀ i ∈ ps, i.ok) {w : World} (hM : InM w A (pc ps)) (d : Dat) (hd : d.ok) (_ : World) :
    Calls Try.prog 9 #[.slice A n c, d.val] w fun e w' => e = .returned (.bool true) ∧ Ext w w' := by
  have HM := Lib.hid hM
  have HA := Lib.hid (fun W => awake06 W)
  by_cases big : 300 < n
  · have d1 : (300 : Int) < n := by omega
    clear hp hm hok hM hd
    obtain ⟨nr, arch, ip, a0, a1, a2, a3, a4, a5⟩ := d
    have bd : Blk (w.alloc (.cells #[.int .u32 nr, .int .u32 arch, .int .u64 ip, .int .u64 a0, .int .u64 a1, .int .u64 a2, .int .u64 a3, .int .u64 a4, .int .u64 a5] 36)) w.heap.size 36 #[.int .u32 nr, .int .u32 arch, .int .u64 ip, .int .u64 a0, .int .u64 a1, .int .u64 a2, .int .u64 a3, .int .u64 a4, .int .u64 a5] := Blk.new w _ _
    have hx := (Ext.refl w).alloc (.cells #[.int .u32 nr, .int .u32 arch, .int .u64 ip, .int .u64 a0, .int .u64 a1, .int .u64 a2, .int .u64 a3, .int .u64 a4, .int .u64 a5] 36)
    go_enter Try.func9, Try.ntmps9
    go_wp2_with fail
    refine (HA.out _).mono ?_
    rintro e w1 ⟨rfl, hx'⟩
    replace hx := hx.trans hx'
    replace bd := bd.ext hx'
    clear hx'
    go_wp2_with fail
    go_ret
    exact ⟨rfl, hx⟩
  have d1 : decide ((300 : Int) < n) = false := by simp; omega
  have C1 := Lib.hid (fun W' h => checkCheck A n c ps W' hp hok (by omega) h)
  have H2 := Lib.hid (fun W h => vmRun A n c ps hp hok (by omega) d hd W h)
  have HH := fun h => run_halts d ps hok h
  rw [hp] at HH
  by_cases ea : (atE ps).2 = 0
  · obtain ⟨h1, h2, h3⟩ := HH ea
    rw [ea] at C1
    generalize runR d ps = R at *
    obtain ⟨rx, rm, rt, re⟩ := R
    dsimp only at h1 h2 h3 H2
    subst h1
    have s1 : (1 : Int) ≤ rm := by omega
    have s2 : (rm : Int) ≤ n := by omega
    clear hp hm hok hM hd HH ea big h2 h3
    obtain ⟨nr, arch, ip, a0, a1, a2, a3, a4, a5⟩ := d
    have bd : Blk (w.alloc (.cells #[.int .u32 nr, .int .u32 arch, .int .u64 ip, .int .u64 a0, .int .u64 a1, .int .u64 a2, .int .u64 a3, .int .u64 a4, .int .u64 a5] 36)) w.heap.size 36 #[.int .u32 nr, .int .u32 arch, .int .u64 ip, .int .u64 a0, .int .u64 a1, .int .u64 a2, .int .u64 a3, .int .u64 a4, .int .u64 a5] := Blk.new w _ _
    have hx := (Ext.refl w).alloc (.cells #[.int .u32 nr, .int .u32 arch, .int .u64 ip, .int .u64 a0, .int .u64 a1, .int .u64 a2, .int .u64 a3, .int .u64 a4, .int .u64 a5] 36)
    go_enter Try.func9, Try.ntmps9
    go_wp2_with fail
    refine (HA.out _).mono ?_
    rintro e w1 ⟨rfl, hx'⟩
    replace hx := hx.trans hx'
    replace bd := bd.ext hx'
    clear hx'
    dsimp only [Dat.val] at H2
    go_wp2_with fail
    refine (C1.out _ (HM.out.ext hx)).mono ?_
    rintro e w2 ⟨rfl, hx'⟩
    replace hx := hx.trans hx'
    replace bd := bd.ext hx'
    clear hx'
    have r0 := bd.cell 0
    have r1 := bd.cell 1
    have r2 := bd.cell 2
    have r3 := bd.cell 3
    have r4 := bd.cell 4
    have r5 := bd.cell 5
    have r6 := bd.cell 6
    have r7 := bd.cell 7
    have r8 := bd.cell 8
    go_wp2_with fail
    clear r0 r1 r2 r3 r4 r5 r6 r7 r8
    refine (H2.out _ (HM.out.ext hx)).mono ?_
    rintro e w3 ⟨rfl, hx'⟩
    replace hx := hx.trans hx'
    clear hx'
    go_wp2_with fail
    go_ret
    exact ⟨rfl, hx⟩
  · have s1 : ((atE ps).2 != 0) = true := by simpa using ea
    clear hp hm hok hM hd ea HH H2
    generalize (atE ps).2 = x at *
    obtain ⟨nr, arch, ip, a0, a1, a2, a3, a4, a5⟩ := d
    have bd : Blk (w.alloc (.cells #[.int .u32 nr, .int .u32 arch, .int .u64 ip, .int .u64 a0, .int .u64 a1, .int .u64 a2, .int .u64 a3, .int .u64 a4, .int .u64 a5] 36)) w.heap.size 36 #[.int .u32 nr, .int .u32 arch, .int .u64 ip, .int .u64 a0, .int .u64 a1, .int .u64 a2, .int .u64 a3, .int .u64 a4, .int .u64 a5] := Blk.new w _ _
    have hx := (Ext.refl w).alloc (.cells #[.int .u32 nr, .int .u32 arch, .int .u64 ip, .int .u64 a0, .int .u64 a1, .int .u64 a2, .int .u64 a3, .int .u64 a4, .int .u64 a5] 36)
    go_enter Try.func9, Try.ntmps9
    go_wp2_with fail
    refine (HA.out _).mono ?_
    rintro e w1 ⟨rfl, hx'⟩
    replace hx := hx.trans hx'
    replace bd := bd.ext hx'
    clear hx'
    go_wp2_with fail
    refine (C1.out _ (HM.out.ext hx)).mono ?_
    rintro e w2 ⟨rfl, hx'⟩
    go_wp2_with fail
    go_ret
    exact ⟨rfl, hx.trans hx'⟩
end Go.Proofs.Ytkejcfbhikpibaa
