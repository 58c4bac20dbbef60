import Derived.Test.YtkejcfbhikpibaaVmr6
import Derived.Test.YtkejcfbhikpibaaVm12
import Derived.Test.YtkejcfbhikpibaaPrg
import Derived.Test.YtkejcfbhikpibaaVm13
/- The law VmRuns, walked. -/
namespace Go.Proofs.Ytkejcfbhikpibaa
open Go.RowKit Go.ChangeShapes Go.WideShapes
set_option linter.unusedVariables false
set_option linter.unusedSimpArgs false

set_option maxHeartbeats 2000000 in
set_option maxRecDepth 100000 in
theorem vmRuns_walk (A : Option Addr) (n c : Nat) (ps : List Ins) (hp : ps.length = n) (hm : n ≤ c ∧ c ≤ maxLen) (hok : ∀ i ∈ ps, i.ok) {w : World} (hM : InM w A (pc ps)) (d : Dat) (hd : d.ok) (_ : World) :
    Calls Try.prog 5 #[.slice A n c, d.val] w fun e w' => e = .returned (.bool true) ∧ Ext w w' := by
  by_cases big : 300 < n
  · have d1 : (300 : Int) < n := by omega
    clear hp hm hok hM hd
    obtain ⟨nr, arch, ip, a0, a1, a2, a3, a4, a5⟩ := d
    have bd : Blk (w.alloc (.cells #[.int .u32 nr, .int .u32 arch, .int .u64 ip, .int .u64 a0, .int .u64 a1, .int .u64 a2, .int .u64 a3, .int .u64 a4, .int .u64 a5] 36)) w.heap.size 36 #[.int .u32 nr, .int .u32 arch, .int .u64 ip, .int .u64 a0, .int .u64 a1, .int .u64 a2, .int .u64 a3, .int .u64 a4, .int .u64 a5] := Blk.new w _ _
    have hx := (Ext.refl w).alloc (.cells #[.int .u32 nr, .int .u32 arch, .int .u64 ip, .int .u64 a0, .int .u64 a1, .int .u64 a2, .int .u64 a3, .int .u64 a4, .int .u64 a5] 36)
    clear bd
    go_enter Try.func5, Try.ntmps5
    go_wp2
    go_ret
    exact ⟨rfl, hx⟩
  have d1 : ¬ (300 : Int) < n := by omega
  have HM := Lib.hid hM
  have H1 := Lib.hid (fun W h => refCopyI A n c ps W hp (by omega) h)
  have H2 := Lib.hid (fun B c' W h => vmRun B n c' ps hp hok (by omega) d hd W h)
  have H3 := Lib.hid (fun B c' W h => vmTrace B n c' ps hp hok (by omega) d hd W h)
  have H4 := Lib.hid (fun W h => refRun A n c ps hp hok (by omega) d hd W h)
  have H7 := Lib.hid (fun B c' W' h k => refSameI_true B A n c' n c ps W' hp rfl (by omega) h k)
  have HG := (run_good d ps).len
  rw [hp] at HG
  obtain ⟨⟨x, m, tr, er⟩, hR⟩ : ∃ R, runR d ps = R := ⟨_, rfl⟩
  rw [hR] at H2 H3 H4 HG
  dsimp only at HG
  have HG := Lib.hid (show tr.length ≤ 300 from by omega)
  clear hR hp hm hok hM hd big
  obtain ⟨nr, arch, ip, a0, a1, a2, a3, a4, a5⟩ := d
  dsimp only [Dat.val] at H2 H3 H4
  have bd : Blk (w.alloc (.cells #[.int .u32 nr, .int .u32 arch, .int .u64 ip, .int .u64 a0, .int .u64 a1, .int .u64 a2, .int .u64 a3, .int .u64 a4, .int .u64 a5] 36)) w.heap.size 36 #[.int .u32 nr, .int .u32 arch, .int .u64 ip, .int .u64 a0, .int .u64 a1, .int .u64 a2, .int .u64 a3, .int .u64 a4, .int .u64 a5] := Blk.new w _ _
  have hx := (Ext.refl w).alloc (.cells #[.int .u32 nr, .int .u32 arch, .int .u64 ip, .int .u64 a0, .int .u64 a1, .int .u64 a2, .int .u64 a3, .int .u64 a4, .int .u64 a5] 36)
  have s1 : (x == x) = true := by simp
  have s2 : (er == er) = true := by simp
  go_enter Try.func5, Try.ntmps5
  go_wp2_with fail
  refine (H1.out _ (HM.out.ext hx)).mono ?_
  rintro e w1 ⟨B, c', rfl, ho, hx'⟩
  replace hx := hx.trans hx'
  replace bd := bd.ext hx'
  have HB := Lib.hid (own_inM ho)
  clear ho hx'
  have r0 := (bd).cell 0
  have r1 := (bd).cell 1
  have r2 := (bd).cell 2
  have r3 := (bd).cell 3
  have r4 := (bd).cell 4
  have r5 := (bd).cell 5
  have r6 := (bd).cell 6
  have r7 := (bd).cell 7
  have r8 := (bd).cell 8
  go_wp2_with fail
  clear r0 r1 r2 r3 r4 r5 r6 r7 r8
  refine (H2.out B c' _ HB.out).mono ?_
  rintro e w2 ⟨rfl, hx'⟩
  replace hx := hx.trans hx'
  replace bd := bd.ext hx'
  have HB2 := Lib.hid (HB.out.ext hx')
  clear hx' HB
  have r0 := (bd).cell 0
  have r1 := (bd).cell 1
  have r2 := (bd).cell 2
  have r3 := (bd).cell 3
  have r4 := (bd).cell 4
  have r5 := (bd).cell 5
  have r6 := (bd).cell 6
  have r7 := (bd).cell 7
  have r8 := (bd).cell 8
  go_wp2_with fail
  clear r0 r1 r2 r3 r4 r5 r6 r7 r8
  refine (H3.out B c' _ HB2.out).mono ?_
  rintro e w3 ⟨L, cl, rfl, hL, hx'⟩
  replace hx := hx.trans hx'
  replace bd := bd.ext hx'
  have HB3 := Lib.hid (HB2.out.ext hx')
  have HL := Lib.hid hL
  clear hx' HB2 hL
  have r0 := (bd).cell 0
  have r1 := (bd).cell 1
  have r2 := (bd).cell 2
  have r3 := (bd).cell 3
  have r4 := (bd).cell 4
  have r5 := (bd).cell 5
  have r6 := (bd).cell 6
  have r7 := (bd).cell 7
  have r8 := (bd).cell 8
  go_wp2_with fail
  clear r0 r1 r2 r3 r4 r5 r6 r7 r8
  refine (H4.out _ (HM.out.ext hx)).mono ?_
  rintro e w4 ⟨K, ck, rfl, hK, hx'⟩
  replace hx := hx.trans hx'
  have HB4 := Lib.hid (HB3.out.ext hx')
  have HL4 := Lib.hid (HL.out.ext hx')
  have HK := Lib.hid hK
  clear hx' HB3 HL bd hK
  go_wp2_with fail
  refine (H7.out B c' _ HB4.out (HM.out.ext hx)).mono ?_
  rintro e w5 ⟨rfl, hx'⟩
  replace hx := hx.trans hx'
  have HL5 := Lib.hid (HL4.out.ext hx')
  have HK5 := Lib.hid (HK.out.ext hx')
  clear hx' HB4 HL4 HK
  go_wp2_with fail
  have hG := HG.out
  clear HG
  generalize hlen : tr.length = len at *
  have HLEN := Lib.hid hlen
  clear hlen
  go_loopw [14] (fun i wr => ∃ k : Nat, k ≤ len ∧ i = .int .i64 k ∧ Ext w5 wr) (fun i _ => len - (intOf i).toNat)
  case atStart => exact ⟨0, Nat.zero_le _, rfl, Ext.refl _⟩
  case round =>
    obtain ⟨k, hk, rfl, hxr⟩ := hrel
    by_cases hlt : k < len
    · have hkp : k < (ints tr).length := by rw [ints_length, HLEN.out]; exact hlt
      obtain ⟨b1, o1, rfl, _, h1⟩ := HL5.out.num hkp
      obtain ⟨b2, o2, rfl, _, h2⟩ := HK5.out.num hkp
      have C1 := Lib.hid h1
      have C2 := Lib.hid h2
      clear h1 h2
      generalize (ints tr)[k] = v at *
      have k1 : (0 : Int) ≤ k := by omega
      have k2 : (k : Int) < len := by omega
      have k3 : (k : Int) < 300 := by omega
      have s3 : (v == v) = true := by simp
      clear hkp hlt
      go_wp2_with fail
      refine wp_region_mono rfl [.is ?va0, .is ?va1, .is ?va2, .is (.int .i64 v), .is ?va4, .is ?va5, .is ?va6, .is (.int .i64 v), .is (.bool false)] (by kernel_rfl) (by kernel_rfl) ?Aa ?hAa ⟨?oa0, ?oa1, ?oa2, ?oa3, ?oa4, ?oa5, ?oa6, ?oa7, ?oa8, trivial⟩ ?fina
      case hAa => (intro x; simp only [fillOps, Act.put, List.setIfInBounds_toArray, List.set_cons_zero, List.set_cons_succ, Nat.reduceAdd]; rfl)
      case oa0 =>
        intro x U hU
        simp only [depV, One, dstOf, readDst, asBool, VP.is, VP.any, VP.row, VP.ptr, VP.blk, VP.ex, VP.and, VP.of, List.getD_cons_zero, List.getD_cons_succ]
        go_wp2_with (fail)
        refine done_mk ?_ rfl (Ext.refl _)
        rfl
      case oa1 =>
        intro x U hU
        simp only [depV, One, dstOf, readDst, asBool, VP.is, VP.any, VP.row, VP.ptr, VP.blk, VP.ex, VP.and, VP.of, List.getD_cons_zero, List.getD_cons_succ]
        go_wp2_with (fail)
        refine done_mk ?_ rfl (Ext.refl _)
        rfl
      case oa2 =>
        intro x U hU
        simp only [depV, One, dstOf, readDst, asBool, VP.is, VP.any, VP.row, VP.ptr, VP.blk, VP.ex, VP.and, VP.of, List.getD_cons_zero, List.getD_cons_succ]
        intro d0
        intro d1
        simp only [d0, d1]
        go_wp2_with (fail)
        refine done_mk ?_ rfl (Ext.refl _)
        rfl
      case oa3 =>
        intro x U hU
        simp only [depV, One, dstOf, readDst, asBool, VP.is, VP.any, VP.row, VP.ptr, VP.blk, VP.ex, VP.and, VP.of, List.getD_cons_zero, List.getD_cons_succ]
        intro d2
        simp only [d2]
        have q0 := (hxr.trans hU).cell C1.out
        go_wp2_with (fail)
        refine done_mk ?_ rfl (Ext.refl _)
        rfl
      case oa4 =>
        intro x U hU
        simp only [depV, One, dstOf, readDst, asBool, VP.is, VP.any, VP.row, VP.ptr, VP.blk, VP.ex, VP.and, VP.of, List.getD_cons_zero, List.getD_cons_succ]
        go_wp2_with (fail)
        refine done_mk ?_ rfl (Ext.refl _)
        rfl
      case oa5 =>
        intro x U hU
        simp only [depV, One, dstOf, readDst, asBool, VP.is, VP.any, VP.row, VP.ptr, VP.blk, VP.ex, VP.and, VP.of, List.getD_cons_zero, List.getD_cons_succ]
        go_wp2_with (fail)
        refine done_mk ?_ rfl (Ext.refl _)
        rfl
      case oa6 =>
        intro x U hU
        simp only [depV, One, dstOf, readDst, asBool, VP.is, VP.any, VP.row, VP.ptr, VP.blk, VP.ex, VP.and, VP.of, List.getD_cons_zero, List.getD_cons_succ]
        intro d4
        intro d5
        simp only [d4, d5]
        go_wp2_with (fail)
        refine done_mk ?_ rfl (Ext.refl _)
        rfl
      case oa7 =>
        intro x U hU
        simp only [depV, One, dstOf, readDst, asBool, VP.is, VP.any, VP.row, VP.ptr, VP.blk, VP.ex, VP.and, VP.of, List.getD_cons_zero, List.getD_cons_succ]
        intro d6
        simp only [d6]
        have q0 := (hxr.trans hU).cell C2.out
        go_wp2_with (fail)
        refine done_mk ?_ rfl (Ext.refl _)
        rfl
      case oa8 =>
        intro x U hU
        simp only [depV, One, dstOf, readDst, asBool, VP.is, VP.any, VP.row, VP.ptr, VP.blk, VP.ex, VP.and, VP.of, List.getD_cons_zero, List.getD_cons_succ]
        intro d3
        intro d7
        simp only [d3, d7]
        go_wp2_with (fail)
        refine done_mk ?_ rfl (Ext.refl _)
        rfl
      case fina =>
        intro x U hU
        simp only [allV, depV, One, dstOf, readDst, asBool, VP.is, VP.any, VP.row, VP.ptr, VP.blk, VP.ex, VP.and, VP.of, List.getD_cons_zero, List.getD_cons_succ]
        intro d0
        intro d1
        intro d2
        intro d3
        intro d4
        intro d5
        intro d6
        intro d7
        intro d8
        simp only [d0, d1, d2, d3, d4, d5, d6, d7, d8]
        clear d0 d1 d2 d3 d4 d5 d6 d7 d8
        replace hxr := hxr.trans hU
        clear hU
        go_wp2_with fail
        go_roundw
        case rel => exact ⟨k + 1, by omega, by go_num, hxr⟩
        case measure => simp [intOf]; omega
    · obtain rfl : k = len := by omega
      go_wp2_with fail
      go_ret
      exact ⟨rfl, hx.trans hxr⟩
end Go.Proofs.Ytkejcfbhikpibaa
