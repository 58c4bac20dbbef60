import Derived.Test.YtkejcfbhikpibaaAwake4
import Derived.Test.YtkejcfbhikpibaaVm13
import Derived.Test.YtkejcfbhikpibaaWalkVm1
/- The law VmEnds, walked. -/
namespace Go.Proofs.Ytkejcfbhikpibaa
open Go.RowKit Go.ChangeShapes Go.WideShapes
set_option linter.unusedVariables false
set_option linter.unusedSimpArgs false

theorem ints_getElem (l : List Nat) (k : Nat) (h : k < l.length) (h' : k < (ints l).length) : (ints l)[k]'h' = ((l[k]'h : Nat) : Int) := by
  simp [ints]
set_option maxHeartbeats 4000000 in
set_option maxRecDepth 100000 in
theorem vmEnds_walk (A : Option Addr) (n c : Nat) (ps : List Ins) (hp : ps.length = n) (hm : n ≤ c ∧ c ≤ maxLen) (hok : ∀ i ∈ ps, i.ok) {w : World} (hM : InM w A (pc ps)) (d : Dat) (hd : d.ok) (_ : World) :
    Calls Try.prog 6 #[.slice A n c, d.val] w fun e w' => e = .returned (.bool true) ∧ Ext w w' := by
  have HM := Lib.hid hM
  have HA := Lib.hid (fun W => awake04 W)
  by_cases big : 300 < n
  · have d1 : (300 : Int) < n := by omega
    clear hp hm hok hM hd
    obtain ⟨nr, arch, ip, a0, a1, a2, a3, a4, a5⟩ := d
    have bd : Blk (w.alloc (.cells #[.int .u32 nr, .int .u32 arch, .int .u64 ip, .int .u64 a0, .int .u64 a1, .int .u64 a2, .int .u64 a3, .int .u64 a4, .int .u64 a5] 36)) w.heap.size 36 #[.int .u32 nr, .int .u32 arch, .int .u64 ip, .int .u64 a0, .int .u64 a1, .int .u64 a2, .int .u64 a3, .int .u64 a4, .int .u64 a5] := Blk.new w _ _
    have hx := (Ext.refl w).alloc (.cells #[.int .u32 nr, .int .u32 arch, .int .u64 ip, .int .u64 a0, .int .u64 a1, .int .u64 a2, .int .u64 a3, .int .u64 a4, .int .u64 a5] 36)
    clear bd
    go_enter Try.func6, Try.ntmps6
    go_wp2_with fail
    refine (HA.out _).mono ?_
    rintro e w1 ⟨rfl, hx1⟩
    go_wp2_with fail
    go_ret
    exact ⟨rfl, hx.trans hx1⟩
  have d1 : ¬ (300 : Int) < n := by omega
  have H2 := Lib.hid (fun W h => vmRun A n c ps hp hok (by omega) d hd W h)
  have H3 := Lib.hid (fun W h => vmTrace A n c ps hp hok (by omega) d hd W h)
  have HG := run_good d ps
  rw [hp] at HG
  obtain ⟨⟨x, m, tr, er⟩, hR⟩ : ∃ R, runR d ps = R := ⟨_, rfl⟩
  rw [hR] at H2 H3 HG
  obtain ⟨g1, g2, g3, g4, g5, g6, g7, g8⟩ := HG
  dsimp only at g1 g2 g3 g4 g5 g6 g7 g8
  generalize hlen : tr.length = len at *
  have HLEN := Lib.hid hlen
  have e1 : ¬ (n : Int) < m := by omega
  have e2 : ¬ (len : Int) < m := by omega
  have e3 : ¬ (m : Int) + 1 < len := by omega
  have e4 : (len : Int) ≤ 300 := by omega
  have e5 : (m : Int) ≤ 300 := by omega
  have e6 : (0 : Int) ≤ m := by omega
  have HU := Lib.hid (And.intro g1 (And.intro g2 g3))
  have HE : (er = 0 ∧ len = m) ∨ (¬ er = 0 ∧ x = 0) := by
    by_cases h : er = 0
    · exact .inl ⟨h, g8 h⟩
    · exact .inr ⟨h, g7 h⟩
  have HN := Lib.hid (And.intro g4 big)
  clear hR hp hm hok hM hd big g1 g2 g3 g4 g5 g6 g7 g8 hlen
  obtain ⟨nr, arch, ip, a0, a1, a2, a3, a4, a5⟩ := d
  dsimp only [Dat.val] at H2 H3
  have bd : Blk (w.alloc (.cells #[.int .u32 nr, .int .u32 arch, .int .u64 ip, .int .u64 a0, .int .u64 a1, .int .u64 a2, .int .u64 a3, .int .u64 a4, .int .u64 a5] 36)) w.heap.size 36 #[.int .u32 nr, .int .u32 arch, .int .u64 ip, .int .u64 a0, .int .u64 a1, .int .u64 a2, .int .u64 a3, .int .u64 a4, .int .u64 a5] := Blk.new w _ _
  have hx := (Ext.refl w).alloc (.cells #[.int .u32 nr, .int .u32 arch, .int .u64 ip, .int .u64 a0, .int .u64 a1, .int .u64 a2, .int .u64 a3, .int .u64 a4, .int .u64 a5] 36)
  go_enter Try.func6, Try.ntmps6
  go_wp2_with fail
  refine (HA.out _).mono ?_
  rintro e w1 ⟨rfl, hx'⟩
  replace hx := hx.trans hx'
  replace bd := bd.ext hx'
  clear hx'
  have r0 := (bd).cell 0
  have r1 := (bd).cell 1
  have r2 := (bd).cell 2
  have r3 := (bd).cell 3
  have r4 := (bd).cell 4
  have r5 := (bd).cell 5
  have r6 := (bd).cell 6
  have r7 := (bd).cell 7
  have r8 := (bd).cell 8
  go_wp2_with fail
  clear r0 r1 r2 r3 r4 r5 r6 r7 r8
  refine (H2.out _ (HM.out.ext hx)).mono ?_
  rintro e w2 ⟨rfl, hx'⟩
  replace hx := hx.trans hx'
  replace bd := bd.ext hx'
  clear hx'
  have r0 := (bd).cell 0
  have r1 := (bd).cell 1
  have r2 := (bd).cell 2
  have r3 := (bd).cell 3
  have r4 := (bd).cell 4
  have r5 := (bd).cell 5
  have r6 := (bd).cell 6
  have r7 := (bd).cell 7
  have r8 := (bd).cell 8
  go_wp2_with fail
  clear r0 r1 r2 r3 r4 r5 r6 r7 r8
  refine (H3.out _ (HM.out.ext hx)).mono ?_
  rintro e w3 ⟨L, cl, rfl, hL, hx'⟩
  replace hx := hx.trans hx'
  have HL := Lib.hid hL
  clear hx' hL bd H2 H3
  obtain ⟨QM, hQM⟩ : ∃ QM : Value → Value → Prop, QM = fun _ _ => True := ⟨_, rfl⟩
  rcases HE with ⟨rfl, hlm⟩ | ⟨he, rfl⟩
  · subst hlm
    have s1 : ((len : Int) != len) = false := by simp
    clear e1 e2 e3
    have e1 : ¬ (n : Int) < len := by have := HN.out.1; omega
    have e2 : ¬ (len : Int) < len := by omega
    have e3 : ¬ (len : Int) + 1 < len := by omega
    go_wp2_with fail
    go_loopw [9] (fun i wr => ∃ k : Nat, k ≤ len ∧ i = .int .i64 k ∧ Ext w3 wr) (fun i _ => len - (intOf i).toNat)
    case atStart => exact ⟨0, Nat.zero_le _, rfl, Ext.refl _⟩
    case round =>
      obtain ⟨k, hk, rfl, hxr⟩ := hrel
      by_cases hlt : k < len
      · have hkt : k < tr.length := by rw [HLEN.out]; exact hlt
        have hkp : k < (ints tr).length := by rw [ints_length]; exact hkt
        obtain ⟨b1, o1, rfl, _, h1⟩ := HL.out.num hkp
        rw [ints_getElem tr k hkt] at h1
        have C1 := Lib.hid h1
        have hvn : tr[k] < n := HU.out.2.1 _ (List.getElem_mem hkt)
        have hnn := HN.out.2
        clear h1
        rcases k with _ | j
        · have hv0 : tr[0] = 0 := by
            rcases HU.out.2.2 with h | h
            · rw [List.head?_eq_getElem?, List.getElem?_eq_getElem hkt] at h
              injection h
            · rw [h] at hkt; simp at hkt
          have h1 := C1.out
          clear C1
          rw [hv0] at h1
          obtain ⟨v, hv⟩ : ∃ v : Int, v = ((0 : Nat) : Int) := ⟨_, rfl⟩
          rw [← hv] at h1
          simp only [Nat.add_zero] at h1
          have C1 := Lib.hid h1
          clear h1
          have k2 : (0 : Int) < len := by omega
          have y1 : decide (v < 0) = false := by simp; omega
          have y2 : decide ((n : Int) ≤ v) = false := by simp; omega
          have y3 : (v != 0) = false := by rw [hv]; rfl
          clear hkp hlt hkt hvn hv0 hv hnn hk
          go_wp2_with fail
          refine wp_region_mono rfl ((.is ?va0 : VP) :: (.is ?va1 : VP) :: (.is ?va2 : VP) :: (.is (.int .i64 v) : VP) :: (.is (.bool false) : VP) :: (.is ?va5 : VP) :: (.is ?va6 : VP) :: (.is ?va7 : VP) :: (.is ?va8 : VP) :: (.is (.int .i64 v) : VP) :: (.is ?va10 : VP) :: (.is ?va11 : VP) :: (.is (.bool false) : VP) :: (.is ?va13 : VP) :: (.is ?va14 : VP) :: (.is ?va15 : VP) :: (.is (.bool false) : VP) :: (.is ?va17 : VP) :: (.is undef : VP) :: (.is undef : VP) :: (.is undef : VP) :: (.is undef : VP) :: (.is undef : VP) :: (.is undef : VP) :: (.is undef : VP) :: (.is undef : VP) :: (.is undef : VP) :: (.is undef : VP) :: (.is ?va28 : VP) :: (.is ?va29 : VP) :: (.is ?va30 : VP) :: (.is ?va31 : VP) :: (.is (.bool true) : VP) :: (.is ?va33 : VP) :: (.is ?va34 : VP) :: (.is ?va35 : VP) :: (.is ?va36 : VP) :: (.is (.int .i64 v) : VP) :: (.is ?va38 : VP) :: (.is ?va39 : VP) :: (.is (.bool false) : VP) :: []) (by kernel_rfl) (by kernel_rfl) ?Aa ?hAa ⟨?oa0, ?oa1, ?oa2, ?oa3, ?oa4, ?oa5, ?oa6, ?oa7, ?oa8, ?oa9, ?oa10, ?oa11, ?oa12, ?oa13, ?oa14, ?oa15, ?oa16, ?oa17, ?oa18, ?oa19, ?oa20, ?oa21, ?oa22, ?oa23, ?oa24, ?oa25, ?oa26, ?oa27, ?oa28, ?oa29, ?oa30, ?oa31, ?oa32, ?oa33, ?oa34, ?oa35, ?oa36, ?oa37, ?oa38, ?oa39, ?oa40, trivial⟩ ?fina
          case hAa => (intro x; simp only [fillOps, Act.put, List.setIfInBounds_toArray, List.set_cons_zero, List.set_cons_succ, Nat.reduceAdd]; rfl)
          case oa0 =>
            intro x U hU
            simp only [depV, One, dstOf, readDst, asBool, VP.is, VP.any, VP.row, VP.ptr, VP.blk, VP.ex, VP.and, VP.of, List.getD_cons_zero, List.getD_cons_succ]
            go_wp2_with (fail)
            refine done_mk ?_ rfl (Ext.refl _)
            rfl
          case oa1 =>
            intro x U hU
            simp only [depV, One, dstOf, readDst, asBool, VP.is, VP.any, VP.row, VP.ptr, VP.blk, VP.ex, VP.and, VP.of, List.getD_cons_zero, List.getD_cons_succ]
            go_wp2_with (fail)
            refine done_mk ?_ rfl (Ext.refl _)
            rfl
          case oa2 =>
            intro x U hU
            simp only [depV, One, dstOf, readDst, asBool, VP.is, VP.any, VP.row, VP.ptr, VP.blk, VP.ex, VP.and, VP.of, List.getD_cons_zero, List.getD_cons_succ]
            intro d0
            intro d1
            simp only [d0, d1]
            go_wp2_with (fail)
            refine done_mk ?_ rfl (Ext.refl _)
            rfl
          case oa3 =>
            intro x U hU
            simp only [depV, One, dstOf, readDst, asBool, VP.is, VP.any, VP.row, VP.ptr, VP.blk, VP.ex, VP.and, VP.of, List.getD_cons_zero, List.getD_cons_succ]
            intro d2
            simp only [d2]
            have q0 := (hxr.trans hU).cell C1.out
            go_wp2_with (fail)
            refine done_mk ?_ rfl (Ext.refl _)
            rfl
          case oa4 =>
            intro x U hU
            simp only [depV, One, dstOf, readDst, asBool, VP.is, VP.any, VP.row, VP.ptr, VP.blk, VP.ex, VP.and, VP.of, List.getD_cons_zero, List.getD_cons_succ]
            intro d3
            simp only [d3]
            go_wp2_with (fail)
            refine done_mk ?_ rfl (Ext.refl _)
            rfl
          case oa5 =>
            intro x U hU
            simp only [depV, One, dstOf, readDst, asBool, VP.is, VP.any, VP.row, VP.ptr, VP.blk, VP.ex, VP.and, VP.of, List.getD_cons_zero, List.getD_cons_succ]
            intro d4
            simp only [d4]
            go_wp2_with (fail)
            refine done_mk ?_ rfl (Ext.refl _)
            rfl
          case oa6 =>
            intro x U hU
            simp only [depV, One, dstOf, readDst, asBool, VP.is, VP.any, VP.row, VP.ptr, VP.blk, VP.ex, VP.and, VP.of, List.getD_cons_zero, List.getD_cons_succ]
            intro d5
            simp only [d5]
            refine gcase_run (by first | rfl | simp) ?_
            go_wp2_with (fail)
            refine done_mk ?_ rfl (Ext.refl _)
            rfl
          case oa7 =>
            intro x U hU
            simp only [depV, One, dstOf, readDst, asBool, VP.is, VP.any, VP.row, VP.ptr, VP.blk, VP.ex, VP.and, VP.of, List.getD_cons_zero, List.getD_cons_succ]
            intro d5
            simp only [d5]
            refine gcase_run (by first | rfl | simp) ?_
            go_wp2_with (fail)
            refine done_mk ?_ rfl (Ext.refl _)
            rfl
          case oa8 =>
            intro x U hU
            simp only [depV, One, dstOf, readDst, asBool, VP.is, VP.any, VP.row, VP.ptr, VP.blk, VP.ex, VP.and, VP.of, List.getD_cons_zero, List.getD_cons_succ]
            intro d6
            intro d7
            intro d5
            simp only [d6, d7, d5]
            refine gcase_run (by first | rfl | simp) ?_
            go_wp2_with (fail)
            refine done_mk ?_ rfl (Ext.refl _)
            rfl
          case oa9 =>
            intro x U hU
            simp only [depV, One, dstOf, readDst, asBool, VP.is, VP.any, VP.row, VP.ptr, VP.blk, VP.ex, VP.and, VP.of, List.getD_cons_zero, List.getD_cons_succ]
            intro d8
            intro d5
            simp only [d8, d5]
            refine gcase_run (by first | rfl | simp) ?_
            have q0 := (hxr.trans hU).cell C1.out
            go_wp2_with (fail)
            refine done_mk ?_ rfl (Ext.refl _)
            rfl
          case oa10 =>
            intro x U hU
            simp only [depV, One, dstOf, readDst, asBool, VP.is, VP.any, VP.row, VP.ptr, VP.blk, VP.ex, VP.and, VP.of, List.getD_cons_zero, List.getD_cons_succ]
            intro d5
            simp only [d5]
            refine gcase_run (by first | rfl | simp) ?_
            go_wp2_with (fail)
            refine done_mk ?_ rfl (Ext.refl _)
            rfl
          case oa11 =>
            intro x U hU
            simp only [depV, One, dstOf, readDst, asBool, VP.is, VP.any, VP.row, VP.ptr, VP.blk, VP.ex, VP.and, VP.of, List.getD_cons_zero, List.getD_cons_succ]
            intro d10
            intro d5
            simp only [d10, d5]
            refine gcase_run (by first | rfl | simp) ?_
            go_wp2_with (fail)
            refine done_mk ?_ rfl (Ext.refl _)
            rfl
          case oa12 =>
            intro x U hU
            simp only [depV, One, dstOf, readDst, asBool, VP.is, VP.any, VP.row, VP.ptr, VP.blk, VP.ex, VP.and, VP.of, List.getD_cons_zero, List.getD_cons_succ]
            intro d9
            intro d11
            intro d5
            simp only [d9, d11, d5]
            refine gcase_run (by first | rfl | simp) ?_
            go_wp2_with (fail)
            refine done_mk ?_ rfl (Ext.refl _)
            rfl
          case oa13 =>
            intro x U hU
            simp only [depV, One, dstOf, readDst, asBool, VP.is, VP.any, VP.row, VP.ptr, VP.blk, VP.ex, VP.and, VP.of, List.getD_cons_zero, List.getD_cons_succ]
            intro d5
            intro d12
            simp only [d5, d12]
            go_wp2_with (fail)
            refine done_mk ?_ rfl (Ext.refl _)
            rfl
          case oa14 =>
            intro x U hU
            simp only [depV, One, dstOf, readDst, asBool, VP.is, VP.any, VP.row, VP.ptr, VP.blk, VP.ex, VP.and, VP.of, List.getD_cons_zero, List.getD_cons_succ]
            intro d13
            simp only [d13]
            go_wp2_with (fail)
            refine done_mk ?_ rfl (Ext.refl _)
            rfl
          case oa15 =>
            intro x U hU
            simp only [depV, One, dstOf, readDst, asBool, VP.is, VP.any, VP.row, VP.ptr, VP.blk, VP.ex, VP.and, VP.of, List.getD_cons_zero, List.getD_cons_succ]
            intro d14
            simp only [d14]
            refine gcase_run (by first | rfl | simp) ?_
            go_wp2_with (fail)
            refine done_mk ?_ rfl (Ext.refl _)
            rfl
          case oa16 =>
            intro x U hU
            simp only [depV, One, dstOf, readDst, asBool, VP.is, VP.any, VP.row, VP.ptr, VP.blk, VP.ex, VP.and, VP.of, List.getD_cons_zero, List.getD_cons_succ]
            intro d15
            intro d14
            simp only [d15, d14]
            refine gcase_run (by first | rfl | simp) ?_
            go_wp2_with (fail)
            refine done_mk ?_ rfl (Ext.refl _)
            rfl
          case oa17 =>
            intro x U hU
            simp only [depV, One, dstOf, readDst, asBool, VP.is, VP.any, VP.row, VP.ptr, VP.blk, VP.ex, VP.and, VP.of, List.getD_cons_zero, List.getD_cons_succ]
            intro d16
            intro d14
            simp only [d16, d14]
            refine gcase_run (by first | rfl | simp) ?_
            go_wp2_with (fail)
            refine done_mk ?_ rfl (Ext.refl _)
            rfl
          case oa18 =>
            intro x U hU
            simp only [depV, One, dstOf, readDst, asBool, VP.is, VP.any, VP.row, VP.ptr, VP.blk, VP.ex, VP.and, VP.of, List.getD_cons_zero, List.getD_cons_succ]
            intro d17
            simp only [d17]
            exact gcase_skip (by first | decide | simp) (by first | rfl | trivial)
          case oa19 =>
            intro x U hU
            simp only [depV, One, dstOf, readDst, asBool, VP.is, VP.any, VP.row, VP.ptr, VP.blk, VP.ex, VP.and, VP.of, List.getD_cons_zero, List.getD_cons_succ]
            intro d17
            simp only [d17]
            exact gcase_skip (by first | decide | simp) (by first | rfl | trivial)
          case oa20 =>
            intro x U hU
            simp only [depV, One, dstOf, readDst, asBool, VP.is, VP.any, VP.row, VP.ptr, VP.blk, VP.ex, VP.and, VP.of, List.getD_cons_zero, List.getD_cons_succ]
            intro d18
            intro d19
            intro d17
            simp only [d18, d19, d17]
            exact gcase_skip (by first | decide | simp) (by first | rfl | trivial)
          case oa21 =>
            intro x U hU
            simp only [depV, One, dstOf, readDst, asBool, VP.is, VP.any, VP.row, VP.ptr, VP.blk, VP.ex, VP.and, VP.of, List.getD_cons_zero, List.getD_cons_succ]
            intro d20
            intro d17
            simp only [d20, d17]
            exact gcase_skip (by first | decide | simp) (by first | rfl | trivial)
          case oa22 =>
            intro x U hU
            simp only [depV, One, dstOf, readDst, asBool, VP.is, VP.any, VP.row, VP.ptr, VP.blk, VP.ex, VP.and, VP.of, List.getD_cons_zero, List.getD_cons_succ]
            intro d17
            simp only [d17]
            exact gcase_skip (by first | decide | simp) (by first | rfl | trivial)
          case oa23 =>
            intro x U hU
            simp only [depV, One, dstOf, readDst, asBool, VP.is, VP.any, VP.row, VP.ptr, VP.blk, VP.ex, VP.and, VP.of, List.getD_cons_zero, List.getD_cons_succ]
            intro d17
            simp only [d17]
            exact gcase_skip (by first | decide | simp) (by first | rfl | trivial)
          case oa24 =>
            intro x U hU
            simp only [depV, One, dstOf, readDst, asBool, VP.is, VP.any, VP.row, VP.ptr, VP.blk, VP.ex, VP.and, VP.of, List.getD_cons_zero, List.getD_cons_succ]
            intro d23
            intro d17
            simp only [d23, d17]
            exact gcase_skip (by first | decide | simp) (by first | rfl | trivial)
          case oa25 =>
            intro x U hU
            simp only [depV, One, dstOf, readDst, asBool, VP.is, VP.any, VP.row, VP.ptr, VP.blk, VP.ex, VP.and, VP.of, List.getD_cons_zero, List.getD_cons_succ]
            intro d22
            intro d24
            intro d17
            simp only [d22, d24, d17]
            exact gcase_skip (by first | decide | simp) (by first | rfl | trivial)
          case oa26 =>
            intro x U hU
            simp only [depV, One, dstOf, readDst, asBool, VP.is, VP.any, VP.row, VP.ptr, VP.blk, VP.ex, VP.and, VP.of, List.getD_cons_zero, List.getD_cons_succ]
            intro d25
            intro d17
            simp only [d25, d17]
            exact gcase_skip (by first | decide | simp) (by first | rfl | trivial)
          case oa27 =>
            intro x U hU
            simp only [depV, One, dstOf, readDst, asBool, VP.is, VP.any, VP.row, VP.ptr, VP.blk, VP.ex, VP.and, VP.of, List.getD_cons_zero, List.getD_cons_succ]
            intro d21
            intro d26
            intro d17
            simp only [d21, d26, d17]
            exact gcase_skip (by first | decide | simp) (by first | rfl | trivial)
          case oa28 =>
            intro x U hU
            simp only [depV, One, dstOf, readDst, asBool, VP.is, VP.any, VP.row, VP.ptr, VP.blk, VP.ex, VP.and, VP.of, List.getD_cons_zero, List.getD_cons_succ]
            intro d17
            intro d27
            intro d14
            simp only [d17, d27, d14]
            refine gcase_run (by first | rfl | simp) ?_
            go_wp2_with (fail)
            refine done_mk ?_ rfl (Ext.refl _)
            rfl
          case oa29 =>
            intro x U hU
            simp only [depV, One, dstOf, readDst, asBool, VP.is, VP.any, VP.row, VP.ptr, VP.blk, VP.ex, VP.and, VP.of, List.getD_cons_zero, List.getD_cons_succ]
            intro d14
            intro d28
            simp only [d14, d28]
            go_wp2_with (fail)
            refine done_mk ?_ rfl (Ext.refl _)
            rfl
          case oa30 =>
            intro x U hU
            simp only [depV, One, dstOf, readDst, asBool, VP.is, VP.any, VP.row, VP.ptr, VP.blk, VP.ex, VP.and, VP.of, List.getD_cons_zero, List.getD_cons_succ]
            intro d29
            simp only [d29]
            go_wp2_with (fail)
            refine done_mk ?_ rfl (Ext.refl _)
            rfl
          case oa31 =>
            intro x U hU
            simp only [depV, One, dstOf, readDst, asBool, VP.is, VP.any, VP.row, VP.ptr, VP.blk, VP.ex, VP.and, VP.of, List.getD_cons_zero, List.getD_cons_succ]
            intro d30
            simp only [d30]
            refine gcase_run (by first | rfl | simp) ?_
            go_wp2_with (fail)
            refine done_mk ?_ rfl (Ext.refl _)
            rfl
          case oa32 =>
            intro x U hU
            simp only [depV, One, dstOf, readDst, asBool, VP.is, VP.any, VP.row, VP.ptr, VP.blk, VP.ex, VP.and, VP.of, List.getD_cons_zero, List.getD_cons_succ]
            intro d31
            intro d30
            simp only [d31, d30]
            refine gcase_run (by first | rfl | simp) ?_
            go_wp2_with (fail)
            refine done_mk ?_ rfl (Ext.refl _)
            rfl
          case oa33 =>
            intro x U hU
            simp only [depV, One, dstOf, readDst, asBool, VP.is, VP.any, VP.row, VP.ptr, VP.blk, VP.ex, VP.and, VP.of, List.getD_cons_zero, List.getD_cons_succ]
            intro d32
            intro d30
            simp only [d32, d30]
            refine gcase_run (by first | rfl | simp) ?_
            go_wp2_with (fail)
            refine done_mk ?_ rfl (Ext.refl _)
            rfl
          case oa34 =>
            intro x U hU
            simp only [depV, One, dstOf, readDst, asBool, VP.is, VP.any, VP.row, VP.ptr, VP.blk, VP.ex, VP.and, VP.of, List.getD_cons_zero, List.getD_cons_succ]
            intro d33
            simp only [d33]
            refine gcase_run (by first | rfl | simp) ?_
            go_wp2_with (fail)
            refine done_mk ?_ rfl (Ext.refl _)
            rfl
          case oa35 =>
            intro x U hU
            simp only [depV, One, dstOf, readDst, asBool, VP.is, VP.any, VP.row, VP.ptr, VP.blk, VP.ex, VP.and, VP.of, List.getD_cons_zero, List.getD_cons_succ]
            intro d33
            simp only [d33]
            refine gcase_run (by first | rfl | simp) ?_
            go_wp2_with (fail)
            refine done_mk ?_ rfl (Ext.refl _)
            rfl
          case oa36 =>
            intro x U hU
            simp only [depV, One, dstOf, readDst, asBool, VP.is, VP.any, VP.row, VP.ptr, VP.blk, VP.ex, VP.and, VP.of, List.getD_cons_zero, List.getD_cons_succ]
            intro d34
            intro d35
            intro d33
            simp only [d34, d35, d33]
            refine gcase_run (by first | rfl | simp) ?_
            go_wp2_with (fail)
            refine done_mk ?_ rfl (Ext.refl _)
            rfl
          case oa37 =>
            intro x U hU
            simp only [depV, One, dstOf, readDst, asBool, VP.is, VP.any, VP.row, VP.ptr, VP.blk, VP.ex, VP.and, VP.of, List.getD_cons_zero, List.getD_cons_succ]
            intro d36
            intro d33
            simp only [d36, d33]
            refine gcase_run (by first | rfl | simp) ?_
            have q1 := (hxr.trans hU).cell C1.out
            go_wp2_with (fail)
            refine done_mk ?_ rfl (Ext.refl _)
            rfl
          case oa38 =>
            intro x U hU
            simp only [depV, One, dstOf, readDst, asBool, VP.is, VP.any, VP.row, VP.ptr, VP.blk, VP.ex, VP.and, VP.of, List.getD_cons_zero, List.getD_cons_succ]
            intro d37
            intro d33
            simp only [d37, d33]
            refine gcase_run (by first | rfl | simp) ?_
            go_wp2_with (fail)
            refine done_mk ?_ rfl (Ext.refl _)
            rfl
          case oa39 =>
            intro x U hU
            simp only [depV, One, dstOf, readDst, asBool, VP.is, VP.any, VP.row, VP.ptr, VP.blk, VP.ex, VP.and, VP.of, List.getD_cons_zero, List.getD_cons_succ]
            intro d33
            intro d38
            intro d30
            simp only [d33, d38, d30]
            refine gcase_run (by first | rfl | simp) ?_
            go_wp2_with (fail)
            refine done_mk ?_ rfl (Ext.refl _)
            rfl
          case oa40 =>
            intro x U hU
            simp only [depV, One, dstOf, readDst, asBool, VP.is, VP.any, VP.row, VP.ptr, VP.blk, VP.ex, VP.and, VP.of, List.getD_cons_zero, List.getD_cons_succ]
            intro d30
            intro d39
            simp only [d30, d39]
            go_wp2_with (fail)
            refine done_mk ?_ rfl (Ext.refl _)
            rfl
          case fina =>
            intro x U hU
            simp only [allV, depV, One, dstOf, readDst, asBool, VP.is, VP.any, VP.row, VP.ptr, VP.blk, VP.ex, VP.and, VP.of, List.getD_cons_zero, List.getD_cons_succ]
            intro d0
            intro d1
            intro d2
            intro d3
            intro d4
            intro d5
            intro d6
            intro d7
            intro d8
            intro d9
            intro d10
            intro d11
            intro d12
            intro d13
            intro d14
            intro d15
            intro d16
            intro d17
            intro d18
            intro d19
            intro d20
            intro d21
            intro d22
            intro d23
            intro d24
            intro d25
            intro d26
            intro d27
            intro d28
            intro d29
            intro d30
            intro d31
            intro d32
            intro d33
            intro d34
            intro d35
            intro d36
            intro d37
            intro d38
            intro d39
            intro d40
            simp only [d0, d1, d2, d3, d4, d5, d6, d7, d8, d9, d10, d11, d12, d13, d14, d15, d16, d17, d18, d19, d20, d21, d22, d23, d24, d25, d26, d27, d28, d29, d30, d31, d32, d33, d34, d35, d36, d37, d38, d39, d40]
            clear d0 d1 d2 d3 d4 d5 d6 d7 d8 d9 d10 d11 d12 d13 d14 d15 d16 d17 d18 d19 d20 d21 d22 d23 d24 d25 d26 d27 d28 d29 d30 d31 d32 d33 d34 d35 d36 d37 d38 d39 d40
            replace hxr := hxr.trans hU
            clear hU
            go_wp2_with fail
            go_roundw
            case rel =>
              first
                | exact ⟨0 + 1, by omega, by go_num, hxr⟩
                | (repeat apply Exists.intro
                   refine ⟨?_, rfl⟩
                   exact ⟨0 + 1, by omega, by go_num, hxr⟩)
            case measure => simp [intOf]; omega
        · have hjt : j < tr.length := by omega
          have hjp : j < (ints tr).length := by rw [ints_length]; exact hjt
          have h2 := HL.out.cell (k := j) (nums_at hjp)
          rw [ints_getElem tr j hjt] at h2
          have C2 := Lib.hid h2
          have hjk : tr[j] < tr[j + 1] := List.pairwise_iff_getElem.1 HU.out.1 j (j + 1) hjt hkt (by omega)
          clear h2
          generalize tr[j + 1] = v at *
          generalize tr[j] = u at *
          have k0 : (0 : Int) ≤ j := by omega
          have k1 : (0 : Int) < (j : Int) + 1 := by omega
          have k2 : (j : Int) + 1 < len := by omega
          have k3 : (j : Int) < 300 := by omega
          have y1 : decide ((v : Int) < 0) = false := by simp
          have y2 : decide ((n : Int) ≤ v) = false := by simp; omega
          have y3 : decide ((v : Int) ≤ u) = false := by simp; omega
          have y4 : ((j : Int) + 1 == 0) = false := by simp; omega
          obtain ⟨vv, hvv⟩ : ∃ x : Int, x = v := ⟨_, rfl⟩
          obtain ⟨uu, huu⟩ : ∃ x : Int, x = u := ⟨_, rfl⟩
          rw [← hvv] at C1 y1 y2 y3
          rw [← huu] at C2 y3
          rw [show ((j + 1 : Nat) : Int) = (j : Int) + 1 from by omega]
          clear hkp hlt hkt hjt hjp hjk hvv huu hvn hnn hk
          go_wp2_with fail
          refine wp_region_mono rfl ((.is ?vaq2r0 : VP) :: (.is ?vaq2r1 : VP) :: (.is ?vaq2r2 : VP) :: (.is (.int .i64 vv) : VP) :: (.is (.bool false) : VP) :: (.is ?vaq2r5 : VP) :: (.is ?vaq2r6 : VP) :: (.is ?vaq2r7 : VP) :: (.is ?vaq2r8 : VP) :: (.is (.int .i64 vv) : VP) :: (.is ?vaq2r10 : VP) :: (.is ?vaq2r11 : VP) :: (.is (.bool false) : VP) :: (.is ?vaq2r13 : VP) :: (.is ?vaq2r14 : VP) :: (.is ?vaq2r15 : VP) :: (.is (.bool true) : VP) :: (.is ?vaq2r17 : VP) :: (.is ?vaq2r18 : VP) :: (.is ?vaq2r19 : VP) :: (.is ?vaq2r20 : VP) :: (.is (.int .i64 vv) : VP) :: (.is ?vaq2r22 : VP) :: (.is ?vaq2r23 : VP) :: (.is (.int .i64 j) : VP) :: (.is ?vaq2r25 : VP) :: (.is (.int .i64 uu) : VP) :: (.is (.bool false) : VP) :: (.is ?vaq2r28 : VP) :: (.is ?vaq2r29 : VP) :: (.is ?vaq2r30 : VP) :: (.is ?vaq2r31 : VP) :: (.is (.bool false) : VP) :: (.is ?vaq2r33 : VP) :: (.is undef : VP) :: (.is undef : VP) :: (.is undef : VP) :: (.is undef : VP) :: (.is undef : VP) :: (.is ?vaq2r39 : VP) :: (.is (.bool false) : VP) :: []) (by kernel_rfl) (by kernel_rfl) ?Aaq2r ?hAaq2r ⟨?oaq2r0, ?oaq2r1, ?oaq2r2, ?oaq2r3, ?oaq2r4, ?oaq2r5, ?oaq2r6, ?oaq2r7, ?oaq2r8, ?oaq2r9, ?oaq2r10, ?oaq2r11, ?oaq2r12, ?oaq2r13, ?oaq2r14, ?oaq2r15, ?oaq2r16, ?oaq2r17, ?oaq2r18, ?oaq2r19, ?oaq2r20, ?oaq2r21, ?oaq2r22, ?oaq2r23, ?oaq2r24, ?oaq2r25, ?oaq2r26, ?oaq2r27, ?oaq2r28, ?oaq2r29, ?oaq2r30, ?oaq2r31, ?oaq2r32, ?oaq2r33, ?oaq2r34, ?oaq2r35, ?oaq2r36, ?oaq2r37, ?oaq2r38, ?oaq2r39, ?oaq2r40, trivial⟩ ?finaq2r
          case hAaq2r => (intro x; simp only [fillOps, Act.put, List.setIfInBounds_toArray, List.set_cons_zero, List.set_cons_succ, Nat.reduceAdd]; rfl)
          case oaq2r0 =>
            intro x U hU
            simp only [depV, One, dstOf, readDst, asBool, VP.is, VP.any, VP.row, VP.ptr, VP.blk, VP.ex, VP.and, VP.of, List.getD_cons_zero, List.getD_cons_succ]
            go_wp2_with (fail)
            refine done_mk ?_ rfl (Ext.refl _)
            rfl
          case oaq2r1 =>
            intro x U hU
            simp only [depV, One, dstOf, readDst, asBool, VP.is, VP.any, VP.row, VP.ptr, VP.blk, VP.ex, VP.and, VP.of, List.getD_cons_zero, List.getD_cons_succ]
            go_wp2_with (fail)
            refine done_mk ?_ rfl (Ext.refl _)
            rfl
          case oaq2r2 =>
            intro x U hU
            simp only [depV, One, dstOf, readDst, asBool, VP.is, VP.any, VP.row, VP.ptr, VP.blk, VP.ex, VP.and, VP.of, List.getD_cons_zero, List.getD_cons_succ]
            intro d0
            intro d1
            simp only [d0, d1]
            go_wp2_with (fail)
            refine done_mk ?_ rfl (Ext.refl _)
            rfl
          case oaq2r3 =>
            intro x U hU
            simp only [depV, One, dstOf, readDst, asBool, VP.is, VP.any, VP.row, VP.ptr, VP.blk, VP.ex, VP.and, VP.of, List.getD_cons_zero, List.getD_cons_succ]
            intro d2
            simp only [d2]
            have q0 := (hxr.trans hU).cell C1.out
            go_wp2_with (fail)
            refine done_mk ?_ rfl (Ext.refl _)
            rfl
          case oaq2r4 =>
            intro x U hU
            simp only [depV, One, dstOf, readDst, asBool, VP.is, VP.any, VP.row, VP.ptr, VP.blk, VP.ex, VP.and, VP.of, List.getD_cons_zero, List.getD_cons_succ]
            intro d3
            simp only [d3]
            go_wp2_with (fail)
            refine done_mk ?_ rfl (Ext.refl _)
            rfl
          case oaq2r5 =>
            intro x U hU
            simp only [depV, One, dstOf, readDst, asBool, VP.is, VP.any, VP.row, VP.ptr, VP.blk, VP.ex, VP.and, VP.of, List.getD_cons_zero, List.getD_cons_succ]
            intro d4
            simp only [d4]
            go_wp2_with (fail)
            refine done_mk ?_ rfl (Ext.refl _)
            rfl
          case oaq2r6 =>
            intro x U hU
            simp only [depV, One, dstOf, readDst, asBool, VP.is, VP.any, VP.row, VP.ptr, VP.blk, VP.ex, VP.and, VP.of, List.getD_cons_zero, List.getD_cons_succ]
            intro d5
            simp only [d5]
            refine gcase_run (by first | rfl | simp) ?_
            go_wp2_with (fail)
            refine done_mk ?_ rfl (Ext.refl _)
            rfl
          case oaq2r7 =>
            intro x U hU
            simp only [depV, One, dstOf, readDst, asBool, VP.is, VP.any, VP.row, VP.ptr, VP.blk, VP.ex, VP.and, VP.of, List.getD_cons_zero, List.getD_cons_succ]
            intro d5
            simp only [d5]
            refine gcase_run (by first | rfl | simp) ?_
            go_wp2_with (fail)
            refine done_mk ?_ rfl (Ext.refl _)
            rfl
          case oaq2r8 =>
            intro x U hU
            simp only [depV, One, dstOf, readDst, asBool, VP.is, VP.any, VP.row, VP.ptr, VP.blk, VP.ex, VP.and, VP.of, List.getD_cons_zero, List.getD_cons_succ]
            intro d6
            intro d7
            intro d5
            simp only [d6, d7, d5]
            refine gcase_run (by first | rfl | simp) ?_
            go_wp2_with (fail)
            refine done_mk ?_ rfl (Ext.refl _)
            rfl
          case oaq2r9 =>
            intro x U hU
            simp only [depV, One, dstOf, readDst, asBool, VP.is, VP.any, VP.row, VP.ptr, VP.blk, VP.ex, VP.and, VP.of, List.getD_cons_zero, List.getD_cons_succ]
            intro d8
            intro d5
            simp only [d8, d5]
            refine gcase_run (by first | rfl | simp) ?_
            have q0 := (hxr.trans hU).cell C1.out
            go_wp2_with (fail)
            refine done_mk ?_ rfl (Ext.refl _)
            rfl
          case oaq2r10 =>
            intro x U hU
            simp only [depV, One, dstOf, readDst, asBool, VP.is, VP.any, VP.row, VP.ptr, VP.blk, VP.ex, VP.and, VP.of, List.getD_cons_zero, List.getD_cons_succ]
            intro d5
            simp only [d5]
            refine gcase_run (by first | rfl | simp) ?_
            go_wp2_with (fail)
            refine done_mk ?_ rfl (Ext.refl _)
            rfl
          case oaq2r11 =>
            intro x U hU
            simp only [depV, One, dstOf, readDst, asBool, VP.is, VP.any, VP.row, VP.ptr, VP.blk, VP.ex, VP.and, VP.of, List.getD_cons_zero, List.getD_cons_succ]
            intro d10
            intro d5
            simp only [d10, d5]
            refine gcase_run (by first | rfl | simp) ?_
            go_wp2_with (fail)
            refine done_mk ?_ rfl (Ext.refl _)
            rfl
          case oaq2r12 =>
            intro x U hU
            simp only [depV, One, dstOf, readDst, asBool, VP.is, VP.any, VP.row, VP.ptr, VP.blk, VP.ex, VP.and, VP.of, List.getD_cons_zero, List.getD_cons_succ]
            intro d9
            intro d11
            intro d5
            simp only [d9, d11, d5]
            refine gcase_run (by first | rfl | simp) ?_
            go_wp2_with (fail)
            refine done_mk ?_ rfl (Ext.refl _)
            rfl
          case oaq2r13 =>
            intro x U hU
            simp only [depV, One, dstOf, readDst, asBool, VP.is, VP.any, VP.row, VP.ptr, VP.blk, VP.ex, VP.and, VP.of, List.getD_cons_zero, List.getD_cons_succ]
            intro d5
            intro d12
            simp only [d5, d12]
            go_wp2_with (fail)
            refine done_mk ?_ rfl (Ext.refl _)
            rfl
          case oaq2r14 =>
            intro x U hU
            simp only [depV, One, dstOf, readDst, asBool, VP.is, VP.any, VP.row, VP.ptr, VP.blk, VP.ex, VP.and, VP.of, List.getD_cons_zero, List.getD_cons_succ]
            intro d13
            simp only [d13]
            go_wp2_with (fail)
            refine done_mk ?_ rfl (Ext.refl _)
            rfl
          case oaq2r15 =>
            intro x U hU
            simp only [depV, One, dstOf, readDst, asBool, VP.is, VP.any, VP.row, VP.ptr, VP.blk, VP.ex, VP.and, VP.of, List.getD_cons_zero, List.getD_cons_succ]
            intro d14
            simp only [d14]
            refine gcase_run (by first | rfl | simp) ?_
            go_wp2_with (fail)
            refine done_mk ?_ rfl (Ext.refl _)
            rfl
          case oaq2r16 =>
            intro x U hU
            simp only [depV, One, dstOf, readDst, asBool, VP.is, VP.any, VP.row, VP.ptr, VP.blk, VP.ex, VP.and, VP.of, List.getD_cons_zero, List.getD_cons_succ]
            intro d15
            intro d14
            simp only [d15, d14]
            refine gcase_run (by first | rfl | simp) ?_
            go_wp2_with (fail)
            refine done_mk ?_ rfl (Ext.refl _)
            rfl
          case oaq2r17 =>
            intro x U hU
            simp only [depV, One, dstOf, readDst, asBool, VP.is, VP.any, VP.row, VP.ptr, VP.blk, VP.ex, VP.and, VP.of, List.getD_cons_zero, List.getD_cons_succ]
            intro d16
            intro d14
            simp only [d16, d14]
            refine gcase_run (by first | rfl | simp) ?_
            go_wp2_with (fail)
            refine done_mk ?_ rfl (Ext.refl _)
            rfl
          case oaq2r18 =>
            intro x U hU
            simp only [depV, One, dstOf, readDst, asBool, VP.is, VP.any, VP.row, VP.ptr, VP.blk, VP.ex, VP.and, VP.of, List.getD_cons_zero, List.getD_cons_succ]
            intro d17
            simp only [d17]
            refine gcase_run (by first | rfl | simp) ?_
            go_wp2_with (fail)
            refine done_mk ?_ rfl (Ext.refl _)
            rfl
          case oaq2r19 =>
            intro x U hU
            simp only [depV, One, dstOf, readDst, asBool, VP.is, VP.any, VP.row, VP.ptr, VP.blk, VP.ex, VP.and, VP.of, List.getD_cons_zero, List.getD_cons_succ]
            intro d17
            simp only [d17]
            refine gcase_run (by first | rfl | simp) ?_
            go_wp2_with (fail)
            refine done_mk ?_ rfl (Ext.refl _)
            rfl
          case oaq2r20 =>
            intro x U hU
            simp only [depV, One, dstOf, readDst, asBool, VP.is, VP.any, VP.row, VP.ptr, VP.blk, VP.ex, VP.and, VP.of, List.getD_cons_zero, List.getD_cons_succ]
            intro d18
            intro d19
            intro d17
            simp only [d18, d19, d17]
            refine gcase_run (by first | rfl | simp) ?_
            go_wp2_with (fail)
            refine done_mk ?_ rfl (Ext.refl _)
            rfl
          case oaq2r21 =>
            intro x U hU
            simp only [depV, One, dstOf, readDst, asBool, VP.is, VP.any, VP.row, VP.ptr, VP.blk, VP.ex, VP.and, VP.of, List.getD_cons_zero, List.getD_cons_succ]
            intro d20
            intro d17
            simp only [d20, d17]
            refine gcase_run (by first | rfl | simp) ?_
            have q0 := (hxr.trans hU).cell C1.out
            go_wp2_with (fail)
            refine done_mk ?_ rfl (Ext.refl _)
            rfl
          case oaq2r22 =>
            intro x U hU
            simp only [depV, One, dstOf, readDst, asBool, VP.is, VP.any, VP.row, VP.ptr, VP.blk, VP.ex, VP.and, VP.of, List.getD_cons_zero, List.getD_cons_succ]
            intro d17
            simp only [d17]
            refine gcase_run (by first | rfl | simp) ?_
            go_wp2_with (fail)
            refine done_mk ?_ rfl (Ext.refl _)
            rfl
          case oaq2r23 =>
            intro x U hU
            simp only [depV, One, dstOf, readDst, asBool, VP.is, VP.any, VP.row, VP.ptr, VP.blk, VP.ex, VP.and, VP.of, List.getD_cons_zero, List.getD_cons_succ]
            intro d17
            simp only [d17]
            refine gcase_run (by first | rfl | simp) ?_
            go_wp2_with (fail)
            refine done_mk ?_ rfl (Ext.refl _)
            rfl
          case oaq2r24 =>
            intro x U hU
            simp only [depV, One, dstOf, readDst, asBool, VP.is, VP.any, VP.row, VP.ptr, VP.blk, VP.ex, VP.and, VP.of, List.getD_cons_zero, List.getD_cons_succ]
            intro d23
            intro d17
            simp only [d23, d17]
            refine gcase_run (by first | rfl | simp) ?_
            go_wp2_with (fail)
            refine done_mk ?_ rfl (Ext.refl _)
            rfl
          case oaq2r25 =>
            intro x U hU
            simp only [depV, One, dstOf, readDst, asBool, VP.is, VP.any, VP.row, VP.ptr, VP.blk, VP.ex, VP.and, VP.of, List.getD_cons_zero, List.getD_cons_succ]
            intro d22
            intro d24
            intro d17
            simp only [d22, d24, d17]
            refine gcase_run (by first | rfl | simp) ?_
            go_wp2_with (fail)
            refine done_mk ?_ rfl (Ext.refl _)
            rfl
          case oaq2r26 =>
            intro x U hU
            simp only [depV, One, dstOf, readDst, asBool, VP.is, VP.any, VP.row, VP.ptr, VP.blk, VP.ex, VP.and, VP.of, List.getD_cons_zero, List.getD_cons_succ]
            intro d25
            intro d17
            simp only [d25, d17]
            refine gcase_run (by first | rfl | simp) ?_
            have q0 := (hxr.trans hU).cell C2.out
            go_wp2_with (fail)
            refine done_mk ?_ rfl (Ext.refl _)
            rfl
          case oaq2r27 =>
            intro x U hU
            simp only [depV, One, dstOf, readDst, asBool, VP.is, VP.any, VP.row, VP.ptr, VP.blk, VP.ex, VP.and, VP.of, List.getD_cons_zero, List.getD_cons_succ]
            intro d21
            intro d26
            intro d17
            simp only [d21, d26, d17]
            refine gcase_run (by first | rfl | simp) ?_
            go_wp2_with (fail)
            refine done_mk ?_ rfl (Ext.refl _)
            rfl
          case oaq2r28 =>
            intro x U hU
            simp only [depV, One, dstOf, readDst, asBool, VP.is, VP.any, VP.row, VP.ptr, VP.blk, VP.ex, VP.and, VP.of, List.getD_cons_zero, List.getD_cons_succ]
            intro d17
            intro d27
            intro d14
            simp only [d17, d27, d14]
            refine gcase_run (by first | rfl | simp) ?_
            go_wp2_with (fail)
            refine done_mk ?_ rfl (Ext.refl _)
            rfl
          case oaq2r29 =>
            intro x U hU
            simp only [depV, One, dstOf, readDst, asBool, VP.is, VP.any, VP.row, VP.ptr, VP.blk, VP.ex, VP.and, VP.of, List.getD_cons_zero, List.getD_cons_succ]
            intro d14
            intro d28
            simp only [d14, d28]
            go_wp2_with (fail)
            refine done_mk ?_ rfl (Ext.refl _)
            rfl
          case oaq2r30 =>
            intro x U hU
            simp only [depV, One, dstOf, readDst, asBool, VP.is, VP.any, VP.row, VP.ptr, VP.blk, VP.ex, VP.and, VP.of, List.getD_cons_zero, List.getD_cons_succ]
            intro d29
            simp only [d29]
            go_wp2_with (fail)
            refine done_mk ?_ rfl (Ext.refl _)
            rfl
          case oaq2r31 =>
            intro x U hU
            simp only [depV, One, dstOf, readDst, asBool, VP.is, VP.any, VP.row, VP.ptr, VP.blk, VP.ex, VP.and, VP.of, List.getD_cons_zero, List.getD_cons_succ]
            intro d30
            simp only [d30]
            refine gcase_run (by first | rfl | simp) ?_
            go_wp2_with (fail)
            refine done_mk ?_ rfl (Ext.refl _)
            rfl
          case oaq2r32 =>
            intro x U hU
            simp only [depV, One, dstOf, readDst, asBool, VP.is, VP.any, VP.row, VP.ptr, VP.blk, VP.ex, VP.and, VP.of, List.getD_cons_zero, List.getD_cons_succ]
            intro d31
            intro d30
            simp only [d31, d30]
            refine gcase_run (by first | rfl | simp) ?_
            go_wp2_with (fail)
            refine done_mk ?_ rfl (Ext.refl _)
            rfl
          case oaq2r33 =>
            intro x U hU
            simp only [depV, One, dstOf, readDst, asBool, VP.is, VP.any, VP.row, VP.ptr, VP.blk, VP.ex, VP.and, VP.of, List.getD_cons_zero, List.getD_cons_succ]
            intro d32
            intro d30
            simp only [d32, d30]
            refine gcase_run (by first | rfl | simp) ?_
            go_wp2_with (fail)
            refine done_mk ?_ rfl (Ext.refl _)
            rfl
          case oaq2r34 =>
            intro x U hU
            simp only [depV, One, dstOf, readDst, asBool, VP.is, VP.any, VP.row, VP.ptr, VP.blk, VP.ex, VP.and, VP.of, List.getD_cons_zero, List.getD_cons_succ]
            intro d33
            simp only [d33]
            exact gcase_skip (by first | decide | simp) (by first | rfl | trivial)
          case oaq2r35 =>
            intro x U hU
            simp only [depV, One, dstOf, readDst, asBool, VP.is, VP.any, VP.row, VP.ptr, VP.blk, VP.ex, VP.and, VP.of, List.getD_cons_zero, List.getD_cons_succ]
            intro d33
            simp only [d33]
            exact gcase_skip (by first | decide | simp) (by first | rfl | trivial)
          case oaq2r36 =>
            intro x U hU
            simp only [depV, One, dstOf, readDst, asBool, VP.is, VP.any, VP.row, VP.ptr, VP.blk, VP.ex, VP.and, VP.of, List.getD_cons_zero, List.getD_cons_succ]
            intro d34
            intro d35
            intro d33
            simp only [d34, d35, d33]
            exact gcase_skip (by first | decide | simp) (by first | rfl | trivial)
          case oaq2r37 =>
            intro x U hU
            simp only [depV, One, dstOf, readDst, asBool, VP.is, VP.any, VP.row, VP.ptr, VP.blk, VP.ex, VP.and, VP.of, List.getD_cons_zero, List.getD_cons_succ]
            intro d36
            intro d33
            simp only [d36, d33]
            exact gcase_skip (by first | decide | simp) (by first | rfl | trivial)
          case oaq2r38 =>
            intro x U hU
            simp only [depV, One, dstOf, readDst, asBool, VP.is, VP.any, VP.row, VP.ptr, VP.blk, VP.ex, VP.and, VP.of, List.getD_cons_zero, List.getD_cons_succ]
            intro d37
            intro d33
            simp only [d37, d33]
            exact gcase_skip (by first | decide | simp) (by first | rfl | trivial)
          case oaq2r39 =>
            intro x U hU
            simp only [depV, One, dstOf, readDst, asBool, VP.is, VP.any, VP.row, VP.ptr, VP.blk, VP.ex, VP.and, VP.of, List.getD_cons_zero, List.getD_cons_succ]
            intro d33
            intro d38
            intro d30
            simp only [d33, d38, d30]
            refine gcase_run (by first | rfl | simp) ?_
            go_wp2_with (fail)
            refine done_mk ?_ rfl (Ext.refl _)
            rfl
          case oaq2r40 =>
            intro x U hU
            simp only [depV, One, dstOf, readDst, asBool, VP.is, VP.any, VP.row, VP.ptr, VP.blk, VP.ex, VP.and, VP.of, List.getD_cons_zero, List.getD_cons_succ]
            intro d30
            intro d39
            simp only [d30, d39]
            go_wp2_with (fail)
            refine done_mk ?_ rfl (Ext.refl _)
            rfl
          case finaq2r =>
            intro x U hU
            simp only [allV, depV, One, dstOf, readDst, asBool, VP.is, VP.any, VP.row, VP.ptr, VP.blk, VP.ex, VP.and, VP.of, List.getD_cons_zero, List.getD_cons_succ]
            intro d0
            intro d1
            intro d2
            intro d3
            intro d4
            intro d5
            intro d6
            intro d7
            intro d8
            intro d9
            intro d10
            intro d11
            intro d12
            intro d13
            intro d14
            intro d15
            intro d16
            intro d17
            intro d18
            intro d19
            intro d20
            intro d21
            intro d22
            intro d23
            intro d24
            intro d25
            intro d26
            intro d27
            intro d28
            intro d29
            intro d30
            intro d31
            intro d32
            intro d33
            intro d34
            intro d35
            intro d36
            intro d37
            intro d38
            intro d39
            intro d40
            simp only [d0, d1, d2, d3, d4, d5, d6, d7, d8, d9, d10, d11, d12, d13, d14, d15, d16, d17, d18, d19, d20, d21, d22, d23, d24, d25, d26, d27, d28, d29, d30, d31, d32, d33, d34, d35, d36, d37, d38, d39, d40]
            clear d0 d1 d2 d3 d4 d5 d6 d7 d8 d9 d10 d11 d12 d13 d14 d15 d16 d17 d18 d19 d20 d21 d22 d23 d24 d25 d26 d27 d28 d29 d30 d31 d32 d33 d34 d35 d36 d37 d38 d39 d40
            replace hxr := hxr.trans hU
            clear hU
            go_wp2_with fail
            go_roundw
            case rel =>
              first
                | exact ⟨j + 1 + 1, by omega, by go_num, hxr⟩
                | (repeat apply Exists.intro
                   refine ⟨?_, rfl⟩
                   exact ⟨j + 1 + 1, by omega, by go_num, hxr⟩)
            case measure => simp [intOf]; omega
      · obtain rfl : k = len := by omega
        go_wp2_with fail
        go_ret
        exact ⟨rfl, hx.trans hxr⟩
  · have s1 : (er != 0) = true := by simpa using he
    have s2 : (er == 0) = false := by simpa using he
    clear he
    go_wp2_with fail
    go_loopw [9] (fun i wr => ∃ k : Nat, k ≤ len ∧ i = .int .i64 k ∧ Ext w3 wr) (fun i _ => len - (intOf i).toNat)
    case atStart => exact ⟨0, Nat.zero_le _, rfl, Ext.refl _⟩
    case round =>
      obtain ⟨k, hk, rfl, hxr⟩ := hrel
      by_cases hlt : k < len
      · have hkt : k < tr.length := by rw [HLEN.out]; exact hlt
        have hkp : k < (ints tr).length := by rw [ints_length]; exact hkt
        obtain ⟨b1, o1, rfl, _, h1⟩ := HL.out.num hkp
        rw [ints_getElem tr k hkt] at h1
        have C1 := Lib.hid h1
        have hvn : tr[k] < n := HU.out.2.1 _ (List.getElem_mem hkt)
        have hnn := HN.out.2
        clear h1
        rcases k with _ | j
        · have hv0 : tr[0] = 0 := by
            rcases HU.out.2.2 with h | h
            · rw [List.head?_eq_getElem?, List.getElem?_eq_getElem hkt] at h
              injection h
            · rw [h] at hkt; simp at hkt
          have h1 := C1.out
          clear C1
          rw [hv0] at h1
          obtain ⟨v, hv⟩ : ∃ v : Int, v = ((0 : Nat) : Int) := ⟨_, rfl⟩
          rw [← hv] at h1
          simp only [Nat.add_zero] at h1
          have C1 := Lib.hid h1
          clear h1
          have k2 : (0 : Int) < len := by omega
          have y1 : decide (v < 0) = false := by simp; omega
          have y2 : decide ((n : Int) ≤ v) = false := by simp; omega
          have y3 : (v != 0) = false := by rw [hv]; rfl
          clear hkp hlt hkt hvn hv0 hv hnn hk
          go_wp2_with fail
          refine wp_region_mono rfl ((.is ?vaq3r0 : VP) :: (.is ?vaq3r1 : VP) :: (.is ?vaq3r2 : VP) :: (.is (.int .i64 v) : VP) :: (.is (.bool false) : VP) :: (.is ?vaq3r5 : VP) :: (.is ?vaq3r6 : VP) :: (.is ?vaq3r7 : VP) :: (.is ?vaq3r8 : VP) :: (.is (.int .i64 v) : VP) :: (.is ?vaq3r10 : VP) :: (.is ?vaq3r11 : VP) :: (.is (.bool false) : VP) :: (.is ?vaq3r13 : VP) :: (.is ?vaq3r14 : VP) :: (.is ?vaq3r15 : VP) :: (.is (.bool false) : VP) :: (.is ?vaq3r17 : VP) :: (.is undef : VP) :: (.is undef : VP) :: (.is undef : VP) :: (.is undef : VP) :: (.is undef : VP) :: (.is undef : VP) :: (.is undef : VP) :: (.is undef : VP) :: (.is undef : VP) :: (.is undef : VP) :: (.is ?vaq3r28 : VP) :: (.is ?vaq3r29 : VP) :: (.is ?vaq3r30 : VP) :: (.is ?vaq3r31 : VP) :: (.is (.bool true) : VP) :: (.is ?vaq3r33 : VP) :: (.is ?vaq3r34 : VP) :: (.is ?vaq3r35 : VP) :: (.is ?vaq3r36 : VP) :: (.is (.int .i64 v) : VP) :: (.is ?vaq3r38 : VP) :: (.is ?vaq3r39 : VP) :: (.is (.bool false) : VP) :: []) (by kernel_rfl) (by kernel_rfl) ?Aaq3r ?hAaq3r ⟨?oaq3r0, ?oaq3r1, ?oaq3r2, ?oaq3r3, ?oaq3r4, ?oaq3r5, ?oaq3r6, ?oaq3r7, ?oaq3r8, ?oaq3r9, ?oaq3r10, ?oaq3r11, ?oaq3r12, ?oaq3r13, ?oaq3r14, ?oaq3r15, ?oaq3r16, ?oaq3r17, ?oaq3r18, ?oaq3r19, ?oaq3r20, ?oaq3r21, ?oaq3r22, ?oaq3r23, ?oaq3r24, ?oaq3r25, ?oaq3r26, ?oaq3r27, ?oaq3r28, ?oaq3r29, ?oaq3r30, ?oaq3r31, ?oaq3r32, ?oaq3r33, ?oaq3r34, ?oaq3r35, ?oaq3r36, ?oaq3r37, ?oaq3r38, ?oaq3r39, ?oaq3r40, trivial⟩ ?finaq3r
          case hAaq3r => (intro x; simp only [fillOps, Act.put, List.setIfInBounds_toArray, List.set_cons_zero, List.set_cons_succ, Nat.reduceAdd]; rfl)
          case oaq3r0 =>
            intro x U hU
            simp only [depV, One, dstOf, readDst, asBool, VP.is, VP.any, VP.row, VP.ptr, VP.blk, VP.ex, VP.and, VP.of, List.getD_cons_zero, List.getD_cons_succ]
            go_wp2_with (fail)
            refine done_mk ?_ rfl (Ext.refl _)
            rfl
          case oaq3r1 =>
            intro x U hU
            simp only [depV, One, dstOf, readDst, asBool, VP.is, VP.any, VP.row, VP.ptr, VP.blk, VP.ex, VP.and, VP.of, List.getD_cons_zero, List.getD_cons_succ]
            go_wp2_with (fail)
            refine done_mk ?_ rfl (Ext.refl _)
            rfl
          case oaq3r2 =>
            intro x U hU
            simp only [depV, One, dstOf, readDst, asBool, VP.is, VP.any, VP.row, VP.ptr, VP.blk, VP.ex, VP.and, VP.of, List.getD_cons_zero, List.getD_cons_succ]
            intro d0
            intro d1
            simp only [d0, d1]
            go_wp2_with (fail)
            refine done_mk ?_ rfl (Ext.refl _)
            rfl
          case oaq3r3 =>
            intro x U hU
            simp only [depV, One, dstOf, readDst, asBool, VP.is, VP.any, VP.row, VP.ptr, VP.blk, VP.ex, VP.and, VP.of, List.getD_cons_zero, List.getD_cons_succ]
            intro d2
            simp only [d2]
            have q0 := (hxr.trans hU).cell C1.out
            go_wp2_with (fail)
            refine done_mk ?_ rfl (Ext.refl _)
            rfl
          case oaq3r4 =>
            intro x U hU
            simp only [depV, One, dstOf, readDst, asBool, VP.is, VP.any, VP.row, VP.ptr, VP.blk, VP.ex, VP.and, VP.of, List.getD_cons_zero, List.getD_cons_succ]
            intro d3
            simp only [d3]
            go_wp2_with (fail)
            refine done_mk ?_ rfl (Ext.refl _)
            rfl
          case oaq3r5 =>
            intro x U hU
            simp only [depV, One, dstOf, readDst, asBool, VP.is, VP.any, VP.row, VP.ptr, VP.blk, VP.ex, VP.and, VP.of, List.getD_cons_zero, List.getD_cons_succ]
            intro d4
            simp only [d4]
            go_wp2_with (fail)
            refine done_mk ?_ rfl (Ext.refl _)
            rfl
          case oaq3r6 =>
            intro x U hU
            simp only [depV, One, dstOf, readDst, asBool, VP.is, VP.any, VP.row, VP.ptr, VP.blk, VP.ex, VP.and, VP.of, List.getD_cons_zero, List.getD_cons_succ]
            intro d5
            simp only [d5]
            refine gcase_run (by first | rfl | simp) ?_
            go_wp2_with (fail)
            refine done_mk ?_ rfl (Ext.refl _)
            rfl
          case oaq3r7 =>
            intro x U hU
            simp only [depV, One, dstOf, readDst, asBool, VP.is, VP.any, VP.row, VP.ptr, VP.blk, VP.ex, VP.and, VP.of, List.getD_cons_zero, List.getD_cons_succ]
            intro d5
            simp only [d5]
            refine gcase_run (by first | rfl | simp) ?_
            go_wp2_with (fail)
            refine done_mk ?_ rfl (Ext.refl _)
            rfl
          case oaq3r8 =>
            intro x U hU
            simp only [depV, One, dstOf, readDst, asBool, VP.is, VP.any, VP.row, VP.ptr, VP.blk, VP.ex, VP.and, VP.of, List.getD_cons_zero, List.getD_cons_succ]
            intro d6
            intro d7
            intro d5
            simp only [d6, d7, d5]
            refine gcase_run (by first | rfl | simp) ?_
            go_wp2_with (fail)
            refine done_mk ?_ rfl (Ext.refl _)
            rfl
          case oaq3r9 =>
            intro x U hU
            simp only [depV, One, dstOf, readDst, asBool, VP.is, VP.any, VP.row, VP.ptr, VP.blk, VP.ex, VP.and, VP.of, List.getD_cons_zero, List.getD_cons_succ]
            intro d8
            intro d5
            simp only [d8, d5]
            refine gcase_run (by first | rfl | simp) ?_
            have q0 := (hxr.trans hU).cell C1.out
            go_wp2_with (fail)
            refine done_mk ?_ rfl (Ext.refl _)
            rfl
          case oaq3r10 =>
            intro x U hU
            simp only [depV, One, dstOf, readDst, asBool, VP.is, VP.any, VP.row, VP.ptr, VP.blk, VP.ex, VP.and, VP.of, List.getD_cons_zero, List.getD_cons_succ]
            intro d5
            simp only [d5]
            refine gcase_run (by first | rfl | simp) ?_
            go_wp2_with (fail)
            refine done_mk ?_ rfl (Ext.refl _)
            rfl
          case oaq3r11 =>
            intro x U hU
            simp only [depV, One, dstOf, readDst, asBool, VP.is, VP.any, VP.row, VP.ptr, VP.blk, VP.ex, VP.and, VP.of, List.getD_cons_zero, List.getD_cons_succ]
            intro d10
            intro d5
            simp only [d10, d5]
            refine gcase_run (by first | rfl | simp) ?_
            go_wp2_with (fail)
            refine done_mk ?_ rfl (Ext.refl _)
            rfl
          case oaq3r12 =>
            intro x U hU
            simp only [depV, One, dstOf, readDst, asBool, VP.is, VP.any, VP.row, VP.ptr, VP.blk, VP.ex, VP.and, VP.of, List.getD_cons_zero, List.getD_cons_succ]
            intro d9
            intro d11
            intro d5
            simp only [d9, d11, d5]
            refine gcase_run (by first | rfl | simp) ?_
            go_wp2_with (fail)
            refine done_mk ?_ rfl (Ext.refl _)
            rfl
          case oaq3r13 =>
            intro x U hU
            simp only [depV, One, dstOf, readDst, asBool, VP.is, VP.any, VP.row, VP.ptr, VP.blk, VP.ex, VP.and, VP.of, List.getD_cons_zero, List.getD_cons_succ]
            intro d5
            intro d12
            simp only [d5, d12]
            go_wp2_with (fail)
            refine done_mk ?_ rfl (Ext.refl _)
            rfl
          case oaq3r14 =>
            intro x U hU
            simp only [depV, One, dstOf, readDst, asBool, VP.is, VP.any, VP.row, VP.ptr, VP.blk, VP.ex, VP.and, VP.of, List.getD_cons_zero, List.getD_cons_succ]
            intro d13
            simp only [d13]
            go_wp2_with (fail)
            refine done_mk ?_ rfl (Ext.refl _)
            rfl
          case oaq3r15 =>
            intro x U hU
            simp only [depV, One, dstOf, readDst, asBool, VP.is, VP.any, VP.row, VP.ptr, VP.blk, VP.ex, VP.and, VP.of, List.getD_cons_zero, List.getD_cons_succ]
            intro d14
            simp only [d14]
            refine gcase_run (by first | rfl | simp) ?_
            go_wp2_with (fail)
            refine done_mk ?_ rfl (Ext.refl _)
            rfl
          case oaq3r16 =>
            intro x U hU
            simp only [depV, One, dstOf, readDst, asBool, VP.is, VP.any, VP.row, VP.ptr, VP.blk, VP.ex, VP.and, VP.of, List.getD_cons_zero, List.getD_cons_succ]
            intro d15
            intro d14
            simp only [d15, d14]
            refine gcase_run (by first | rfl | simp) ?_
            go_wp2_with (fail)
            refine done_mk ?_ rfl (Ext.refl _)
            rfl
          case oaq3r17 =>
            intro x U hU
            simp only [depV, One, dstOf, readDst, asBool, VP.is, VP.any, VP.row, VP.ptr, VP.blk, VP.ex, VP.and, VP.of, List.getD_cons_zero, List.getD_cons_succ]
            intro d16
            intro d14
            simp only [d16, d14]
            refine gcase_run (by first | rfl | simp) ?_
            go_wp2_with (fail)
            refine done_mk ?_ rfl (Ext.refl _)
            rfl
          case oaq3r18 =>
            intro x U hU
            simp only [depV, One, dstOf, readDst, asBool, VP.is, VP.any, VP.row, VP.ptr, VP.blk, VP.ex, VP.and, VP.of, List.getD_cons_zero, List.getD_cons_succ]
            intro d17
            simp only [d17]
            exact gcase_skip (by first | decide | simp) (by first | rfl | trivial)
          case oaq3r19 =>
            intro x U hU
            simp only [depV, One, dstOf, readDst, asBool, VP.is, VP.any, VP.row, VP.ptr, VP.blk, VP.ex, VP.and, VP.of, List.getD_cons_zero, List.getD_cons_succ]
            intro d17
            simp only [d17]
            exact gcase_skip (by first | decide | simp) (by first | rfl | trivial)
          case oaq3r20 =>
            intro x U hU
            simp only [depV, One, dstOf, readDst, asBool, VP.is, VP.any, VP.row, VP.ptr, VP.blk, VP.ex, VP.and, VP.of, List.getD_cons_zero, List.getD_cons_succ]
            intro d18
            intro d19
            intro d17
            simp only [d18, d19, d17]
            exact gcase_skip (by first | decide | simp) (by first | rfl | trivial)
          case oaq3r21 =>
            intro x U hU
            simp only [depV, One, dstOf, readDst, asBool, VP.is, VP.any, VP.row, VP.ptr, VP.blk, VP.ex, VP.and, VP.of, List.getD_cons_zero, List.getD_cons_succ]
            intro d20
            intro d17
            simp only [d20, d17]
            exact gcase_skip (by first | decide | simp) (by first | rfl | trivial)
          case oaq3r22 =>
            intro x U hU
            simp only [depV, One, dstOf, readDst, asBool, VP.is, VP.any, VP.row, VP.ptr, VP.blk, VP.ex, VP.and, VP.of, List.getD_cons_zero, List.getD_cons_succ]
            intro d17
            simp only [d17]
            exact gcase_skip (by first | decide | simp) (by first | rfl | trivial)
          case oaq3r23 =>
            intro x U hU
            simp only [depV, One, dstOf, readDst, asBool, VP.is, VP.any, VP.row, VP.ptr, VP.blk, VP.ex, VP.and, VP.of, List.getD_cons_zero, List.getD_cons_succ]
            intro d17
            simp only [d17]
            exact gcase_skip (by first | decide | simp) (by first | rfl | trivial)
          case oaq3r24 =>
            intro x U hU
            simp only [depV, One, dstOf, readDst, asBool, VP.is, VP.any, VP.row, VP.ptr, VP.blk, VP.ex, VP.and, VP.of, List.getD_cons_zero, List.getD_cons_succ]
            intro d23
            intro d17
            simp only [d23, d17]
            exact gcase_skip (by first | decide | simp) (by first | rfl | trivial)
          case oaq3r25 =>
            intro x U hU
            simp only [depV, One, dstOf, readDst, asBool, VP.is, VP.any, VP.row, VP.ptr, VP.blk, VP.ex, VP.and, VP.of, List.getD_cons_zero, List.getD_cons_succ]
            intro d22
            intro d24
            intro d17
            simp only [d22, d24, d17]
            exact gcase_skip (by first | decide | simp) (by first | rfl | trivial)
          case oaq3r26 =>
            intro x U hU
            simp only [depV, One, dstOf, readDst, asBool, VP.is, VP.any, VP.row, VP.ptr, VP.blk, VP.ex, VP.and, VP.of, List.getD_cons_zero, List.getD_cons_succ]
            intro d25
            intro d17
            simp only [d25, d17]
            exact gcase_skip (by first | decide | simp) (by first | rfl | trivial)
          case oaq3r27 =>
            intro x U hU
            simp only [depV, One, dstOf, readDst, asBool, VP.is, VP.any, VP.row, VP.ptr, VP.blk, VP.ex, VP.and, VP.of, List.getD_cons_zero, List.getD_cons_succ]
            intro d21
            intro d26
            intro d17
            simp only [d21, d26, d17]
            exact gcase_skip (by first | decide | simp) (by first | rfl | trivial)
          case oaq3r28 =>
            intro x U hU
            simp only [depV, One, dstOf, readDst, asBool, VP.is, VP.any, VP.row, VP.ptr, VP.blk, VP.ex, VP.and, VP.of, List.getD_cons_zero, List.getD_cons_succ]
            intro d17
            intro d27
            intro d14
            simp only [d17, d27, d14]
            refine gcase_run (by first | rfl | simp) ?_
            go_wp2_with (fail)
            refine done_mk ?_ rfl (Ext.refl _)
            rfl
          case oaq3r29 =>
            intro x U hU
            simp only [depV, One, dstOf, readDst, asBool, VP.is, VP.any, VP.row, VP.ptr, VP.blk, VP.ex, VP.and, VP.of, List.getD_cons_zero, List.getD_cons_succ]
            intro d14
            intro d28
            simp only [d14, d28]
            go_wp2_with (fail)
            refine done_mk ?_ rfl (Ext.refl _)
            rfl
          case oaq3r30 =>
            intro x U hU
            simp only [depV, One, dstOf, readDst, asBool, VP.is, VP.any, VP.row, VP.ptr, VP.blk, VP.ex, VP.and, VP.of, List.getD_cons_zero, List.getD_cons_succ]
            intro d29
            simp only [d29]
            go_wp2_with (fail)
            refine done_mk ?_ rfl (Ext.refl _)
            rfl
          case oaq3r31 =>
            intro x U hU
            simp only [depV, One, dstOf, readDst, asBool, VP.is, VP.any, VP.row, VP.ptr, VP.blk, VP.ex, VP.and, VP.of, List.getD_cons_zero, List.getD_cons_succ]
            intro d30
            simp only [d30]
            refine gcase_run (by first | rfl | simp) ?_
            go_wp2_with (fail)
            refine done_mk ?_ rfl (Ext.refl _)
            rfl
          case oaq3r32 =>
            intro x U hU
            simp only [depV, One, dstOf, readDst, asBool, VP.is, VP.any, VP.row, VP.ptr, VP.blk, VP.ex, VP.and, VP.of, List.getD_cons_zero, List.getD_cons_succ]
            intro d31
            intro d30
            simp only [d31, d30]
            refine gcase_run (by first | rfl | simp) ?_
            go_wp2_with (fail)
            refine done_mk ?_ rfl (Ext.refl _)
            rfl
          case oaq3r33 =>
            intro x U hU
            simp only [depV, One, dstOf, readDst, asBool, VP.is, VP.any, VP.row, VP.ptr, VP.blk, VP.ex, VP.and, VP.of, List.getD_cons_zero, List.getD_cons_succ]
            intro d32
            intro d30
            simp only [d32, d30]
            refine gcase_run (by first | rfl | simp) ?_
            go_wp2_with (fail)
            refine done_mk ?_ rfl (Ext.refl _)
            rfl
          case oaq3r34 =>
            intro x U hU
            simp only [depV, One, dstOf, readDst, asBool, VP.is, VP.any, VP.row, VP.ptr, VP.blk, VP.ex, VP.and, VP.of, List.getD_cons_zero, List.getD_cons_succ]
            intro d33
            simp only [d33]
            refine gcase_run (by first | rfl | simp) ?_
            go_wp2_with (fail)
            refine done_mk ?_ rfl (Ext.refl _)
            rfl
          case oaq3r35 =>
            intro x U hU
            simp only [depV, One, dstOf, readDst, asBool, VP.is, VP.any, VP.row, VP.ptr, VP.blk, VP.ex, VP.and, VP.of, List.getD_cons_zero, List.getD_cons_succ]
            intro d33
            simp only [d33]
            refine gcase_run (by first | rfl | simp) ?_
            go_wp2_with (fail)
            refine done_mk ?_ rfl (Ext.refl _)
            rfl
          case oaq3r36 =>
            intro x U hU
            simp only [depV, One, dstOf, readDst, asBool, VP.is, VP.any, VP.row, VP.ptr, VP.blk, VP.ex, VP.and, VP.of, List.getD_cons_zero, List.getD_cons_succ]
            intro d34
            intro d35
            intro d33
            simp only [d34, d35, d33]
            refine gcase_run (by first | rfl | simp) ?_
            go_wp2_with (fail)
            refine done_mk ?_ rfl (Ext.refl _)
            rfl
          case oaq3r37 =>
            intro x U hU
            simp only [depV, One, dstOf, readDst, asBool, VP.is, VP.any, VP.row, VP.ptr, VP.blk, VP.ex, VP.and, VP.of, List.getD_cons_zero, List.getD_cons_succ]
            intro d36
            intro d33
            simp only [d36, d33]
            refine gcase_run (by first | rfl | simp) ?_
            have q1 := (hxr.trans hU).cell C1.out
            go_wp2_with (fail)
            refine done_mk ?_ rfl (Ext.refl _)
            rfl
          case oaq3r38 =>
            intro x U hU
            simp only [depV, One, dstOf, readDst, asBool, VP.is, VP.any, VP.row, VP.ptr, VP.blk, VP.ex, VP.and, VP.of, List.getD_cons_zero, List.getD_cons_succ]
            intro d37
            intro d33
            simp only [d37, d33]
            refine gcase_run (by first | rfl | simp) ?_
            go_wp2_with (fail)
            refine done_mk ?_ rfl (Ext.refl _)
            rfl
          case oaq3r39 =>
            intro x U hU
            simp only [depV, One, dstOf, readDst, asBool, VP.is, VP.any, VP.row, VP.ptr, VP.blk, VP.ex, VP.and, VP.of, List.getD_cons_zero, List.getD_cons_succ]
            intro d33
            intro d38
            intro d30
            simp only [d33, d38, d30]
            refine gcase_run (by first | rfl | simp) ?_
            go_wp2_with (fail)
            refine done_mk ?_ rfl (Ext.refl _)
            rfl
          case oaq3r40 =>
            intro x U hU
            simp only [depV, One, dstOf, readDst, asBool, VP.is, VP.any, VP.row, VP.ptr, VP.blk, VP.ex, VP.and, VP.of, List.getD_cons_zero, List.getD_cons_succ]
            intro d30
            intro d39
            simp only [d30, d39]
            go_wp2_with (fail)
            refine done_mk ?_ rfl (Ext.refl _)
            rfl
          case finaq3r =>
            intro x U hU
            simp only [allV, depV, One, dstOf, readDst, asBool, VP.is, VP.any, VP.row, VP.ptr, VP.blk, VP.ex, VP.and, VP.of, List.getD_cons_zero, List.getD_cons_succ]
            intro d0
            intro d1
            intro d2
            intro d3
            intro d4
            intro d5
            intro d6
            intro d7
            intro d8
            intro d9
            intro d10
            intro d11
            intro d12
            intro d13
            intro d14
            intro d15
            intro d16
            intro d17
            intro d18
            intro d19
            intro d20
            intro d21
            intro d22
            intro d23
            intro d24
            intro d25
            intro d26
            intro d27
            intro d28
            intro d29
            intro d30
            intro d31
            intro d32
            intro d33
            intro d34
            intro d35
            intro d36
            intro d37
            intro d38
            intro d39
            intro d40
            simp only [d0, d1, d2, d3, d4, d5, d6, d7, d8, d9, d10, d11, d12, d13, d14, d15, d16, d17, d18, d19, d20, d21, d22, d23, d24, d25, d26, d27, d28, d29, d30, d31, d32, d33, d34, d35, d36, d37, d38, d39, d40]
            clear d0 d1 d2 d3 d4 d5 d6 d7 d8 d9 d10 d11 d12 d13 d14 d15 d16 d17 d18 d19 d20 d21 d22 d23 d24 d25 d26 d27 d28 d29 d30 d31 d32 d33 d34 d35 d36 d37 d38 d39 d40
            replace hxr := hxr.trans hU
            clear hU
            go_wp2_with fail
            go_roundw
            case rel =>
              first
                | exact ⟨0 + 1, by omega, by go_num, hxr⟩
                | (repeat apply Exists.intro
                   refine ⟨?_, rfl⟩
                   exact ⟨0 + 1, by omega, by go_num, hxr⟩)
            case measure => simp [intOf]; omega
        · have hjt : j < tr.length := by omega
          have hjp : j < (ints tr).length := by rw [ints_length]; exact hjt
          have h2 := HL.out.cell (k := j) (nums_at hjp)
          rw [ints_getElem tr j hjt] at h2
          have C2 := Lib.hid h2
          have hjk : tr[j] < tr[j + 1] := List.pairwise_iff_getElem.1 HU.out.1 j (j + 1) hjt hkt (by omega)
          clear h2
          generalize tr[j + 1] = v at *
          generalize tr[j] = u at *
          have k0 : (0 : Int) ≤ j := by omega
          have k1 : (0 : Int) < (j : Int) + 1 := by omega
          have k2 : (j : Int) + 1 < len := by omega
          have k3 : (j : Int) < 300 := by omega
          have y1 : decide ((v : Int) < 0) = false := by simp
          have y2 : decide ((n : Int) ≤ v) = false := by simp; omega
          have y3 : decide ((v : Int) ≤ u) = false := by simp; omega
          have y4 : ((j : Int) + 1 == 0) = false := by simp; omega
          obtain ⟨vv, hvv⟩ : ∃ x : Int, x = v := ⟨_, rfl⟩
          obtain ⟨uu, huu⟩ : ∃ x : Int, x = u := ⟨_, rfl⟩
          rw [← hvv] at C1 y1 y2 y3
          rw [← huu] at C2 y3
          rw [show ((j + 1 : Nat) : Int) = (j : Int) + 1 from by omega]
          clear hkp hlt hkt hjt hjp hjk hvv huu hvn hnn hk
          go_wp2_with fail
          refine wp_region_mono rfl ((.is ?vaq4r0 : VP) :: (.is ?vaq4r1 : VP) :: (.is ?vaq4r2 : VP) :: (.is (.int .i64 vv) : VP) :: (.is (.bool false) : VP) :: (.is ?vaq4r5 : VP) :: (.is ?vaq4r6 : VP) :: (.is ?vaq4r7 : VP) :: (.is ?vaq4r8 : VP) :: (.is (.int .i64 vv) : VP) :: (.is ?vaq4r10 : VP) :: (.is ?vaq4r11 : VP) :: (.is (.bool false) : VP) :: (.is ?vaq4r13 : VP) :: (.is ?vaq4r14 : VP) :: (.is ?vaq4r15 : VP) :: (.is (.bool true) : VP) :: (.is ?vaq4r17 : VP) :: (.is ?vaq4r18 : VP) :: (.is ?vaq4r19 : VP) :: (.is ?vaq4r20 : VP) :: (.is (.int .i64 vv) : VP) :: (.is ?vaq4r22 : VP) :: (.is ?vaq4r23 : VP) :: (.is (.int .i64 j) : VP) :: (.is ?vaq4r25 : VP) :: (.is (.int .i64 uu) : VP) :: (.is (.bool false) : VP) :: (.is ?vaq4r28 : VP) :: (.is ?vaq4r29 : VP) :: (.is ?vaq4r30 : VP) :: (.is ?vaq4r31 : VP) :: (.is (.bool false) : VP) :: (.is ?vaq4r33 : VP) :: (.is undef : VP) :: (.is undef : VP) :: (.is undef : VP) :: (.is undef : VP) :: (.is undef : VP) :: (.is ?vaq4r39 : VP) :: (.is (.bool false) : VP) :: []) (by kernel_rfl) (by kernel_rfl) ?Aaq4r ?hAaq4r ⟨?oaq4r0, ?oaq4r1, ?oaq4r2, ?oaq4r3, ?oaq4r4, ?oaq4r5, ?oaq4r6, ?oaq4r7, ?oaq4r8, ?oaq4r9, ?oaq4r10, ?oaq4r11, ?oaq4r12, ?oaq4r13, ?oaq4r14, ?oaq4r15, ?oaq4r16, ?oaq4r17, ?oaq4r18, ?oaq4r19, ?oaq4r20, ?oaq4r21, ?oaq4r22, ?oaq4r23, ?oaq4r24, ?oaq4r25, ?oaq4r26, ?oaq4r27, ?oaq4r28, ?oaq4r29, ?oaq4r30, ?oaq4r31, ?oaq4r32, ?oaq4r33, ?oaq4r34, ?oaq4r35, ?oaq4r36, ?oaq4r37, ?oaq4r38, ?oaq4r39, ?oaq4r40, trivial⟩ ?finaq4r
          case hAaq4r => (intro x; simp only [fillOps, Act.put, List.setIfInBounds_toArray, List.set_cons_zero, List.set_cons_succ, Nat.reduceAdd]; rfl)
          case oaq4r0 =>
            intro x U hU
            simp only [depV, One, dstOf, readDst, asBool, VP.is, VP.any, VP.row, VP.ptr, VP.blk, VP.ex, VP.and, VP.of, List.getD_cons_zero, List.getD_cons_succ]
            go_wp2_with (fail)
            refine done_mk ?_ rfl (Ext.refl _)
            rfl
          case oaq4r1 =>
            intro x U hU
            simp only [depV, One, dstOf, readDst, asBool, VP.is, VP.any, VP.row, VP.ptr, VP.blk, VP.ex, VP.and, VP.of, List.getD_cons_zero, List.getD_cons_succ]
            go_wp2_with (fail)
            refine done_mk ?_ rfl (Ext.refl _)
            rfl
          case oaq4r2 =>
            intro x U hU
            simp only [depV, One, dstOf, readDst, asBool, VP.is, VP.any, VP.row, VP.ptr, VP.blk, VP.ex, VP.and, VP.of, List.getD_cons_zero, List.getD_cons_succ]
            intro d0
            intro d1
            simp only [d0, d1]
            go_wp2_with (fail)
            refine done_mk ?_ rfl (Ext.refl _)
            rfl
          case oaq4r3 =>
            intro x U hU
            simp only [depV, One, dstOf, readDst, asBool, VP.is, VP.any, VP.row, VP.ptr, VP.blk, VP.ex, VP.and, VP.of, List.getD_cons_zero, List.getD_cons_succ]
            intro d2
            simp only [d2]
            have q0 := (hxr.trans hU).cell C1.out
            go_wp2_with (fail)
            refine done_mk ?_ rfl (Ext.refl _)
            rfl
          case oaq4r4 =>
            intro x U hU
            simp only [depV, One, dstOf, readDst, asBool, VP.is, VP.any, VP.row, VP.ptr, VP.blk, VP.ex, VP.and, VP.of, List.getD_cons_zero, List.getD_cons_succ]
            intro d3
            simp only [d3]
            go_wp2_with (fail)
            refine done_mk ?_ rfl (Ext.refl _)
            rfl
          case oaq4r5 =>
            intro x U hU
            simp only [depV, One, dstOf, readDst, asBool, VP.is, VP.any, VP.row, VP.ptr, VP.blk, VP.ex, VP.and, VP.of, List.getD_cons_zero, List.getD_cons_succ]
            intro d4
            simp only [d4]
            go_wp2_with (fail)
            refine done_mk ?_ rfl (Ext.refl _)
            rfl
          case oaq4r6 =>
            intro x U hU
            simp only [depV, One, dstOf, readDst, asBool, VP.is, VP.any, VP.row, VP.ptr, VP.blk, VP.ex, VP.and, VP.of, List.getD_cons_zero, List.getD_cons_succ]
            intro d5
            simp only [d5]
            refine gcase_run (by first | rfl | simp) ?_
            go_wp2_with (fail)
            refine done_mk ?_ rfl (Ext.refl _)
            rfl
          case oaq4r7 =>
            intro x U hU
            simp only [depV, One, dstOf, readDst, asBool, VP.is, VP.any, VP.row, VP.ptr, VP.blk, VP.ex, VP.and, VP.of, List.getD_cons_zero, List.getD_cons_succ]
            intro d5
            simp only [d5]
            refine gcase_run (by first | rfl | simp) ?_
            go_wp2_with (fail)
            refine done_mk ?_ rfl (Ext.refl _)
            rfl
          case oaq4r8 =>
            intro x U hU
            simp only [depV, One, dstOf, readDst, asBool, VP.is, VP.any, VP.row, VP.ptr, VP.blk, VP.ex, VP.and, VP.of, List.getD_cons_zero, List.getD_cons_succ]
            intro d6
            intro d7
            intro d5
            simp only [d6, d7, d5]
            refine gcase_run (by first | rfl | simp) ?_
            go_wp2_with (fail)
            refine done_mk ?_ rfl (Ext.refl _)
            rfl
          case oaq4r9 =>
            intro x U hU
            simp only [depV, One, dstOf, readDst, asBool, VP.is, VP.any, VP.row, VP.ptr, VP.blk, VP.ex, VP.and, VP.of, List.getD_cons_zero, List.getD_cons_succ]
            intro d8
            intro d5
            simp only [d8, d5]
            refine gcase_run (by first | rfl | simp) ?_
            have q0 := (hxr.trans hU).cell C1.out
            go_wp2_with (fail)
            refine done_mk ?_ rfl (Ext.refl _)
            rfl
          case oaq4r10 =>
            intro x U hU
            simp only [depV, One, dstOf, readDst, asBool, VP.is, VP.any, VP.row, VP.ptr, VP.blk, VP.ex, VP.and, VP.of, List.getD_cons_zero, List.getD_cons_succ]
            intro d5
            simp only [d5]
            refine gcase_run (by first | rfl | simp) ?_
            go_wp2_with (fail)
            refine done_mk ?_ rfl (Ext.refl _)
            rfl
          case oaq4r11 =>
            intro x U hU
            simp only [depV, One, dstOf, readDst, asBool, VP.is, VP.any, VP.row, VP.ptr, VP.blk, VP.ex, VP.and, VP.of, List.getD_cons_zero, List.getD_cons_succ]
            intro d10
            intro d5
            simp only [d10, d5]
            refine gcase_run (by first | rfl | simp) ?_
            go_wp2_with (fail)
            refine done_mk ?_ rfl (Ext.refl _)
            rfl
          case oaq4r12 =>
            intro x U hU
            simp only [depV, One, dstOf, readDst, asBool, VP.is, VP.any, VP.row, VP.ptr, VP.blk, VP.ex, VP.and, VP.of, List.getD_cons_zero, List.getD_cons_succ]
            intro d9
            intro d11
            intro d5
            simp only [d9, d11, d5]
            refine gcase_run (by first | rfl | simp) ?_
            go_wp2_with (fail)
            refine done_mk ?_ rfl (Ext.refl _)
            rfl
          case oaq4r13 =>
            intro x U hU
            simp only [depV, One, dstOf, readDst, asBool, VP.is, VP.any, VP.row, VP.ptr, VP.blk, VP.ex, VP.and, VP.of, List.getD_cons_zero, List.getD_cons_succ]
            intro d5
            intro d12
            simp only [d5, d12]
            go_wp2_with (fail)
            refine done_mk ?_ rfl (Ext.refl _)
            rfl
          case oaq4r14 =>
            intro x U hU
            simp only [depV, One, dstOf, readDst, asBool, VP.is, VP.any, VP.row, VP.ptr, VP.blk, VP.ex, VP.and, VP.of, List.getD_cons_zero, List.getD_cons_succ]
            intro d13
            simp only [d13]
            go_wp2_with (fail)
            refine done_mk ?_ rfl (Ext.refl _)
            rfl
          case oaq4r15 =>
            intro x U hU
            simp only [depV, One, dstOf, readDst, asBool, VP.is, VP.any, VP.row, VP.ptr, VP.blk, VP.ex, VP.and, VP.of, List.getD_cons_zero, List.getD_cons_succ]
            intro d14
            simp only [d14]
            refine gcase_run (by first | rfl | simp) ?_
            go_wp2_with (fail)
            refine done_mk ?_ rfl (Ext.refl _)
            rfl
          case oaq4r16 =>
            intro x U hU
            simp only [depV, One, dstOf, readDst, asBool, VP.is, VP.any, VP.row, VP.ptr, VP.blk, VP.ex, VP.and, VP.of, List.getD_cons_zero, List.getD_cons_succ]
            intro d15
            intro d14
            simp only [d15, d14]
            refine gcase_run (by first | rfl | simp) ?_
            go_wp2_with (fail)
            refine done_mk ?_ rfl (Ext.refl _)
            rfl
          case oaq4r17 =>
            intro x U hU
            simp only [depV, One, dstOf, readDst, asBool, VP.is, VP.any, VP.row, VP.ptr, VP.blk, VP.ex, VP.and, VP.of, List.getD_cons_zero, List.getD_cons_succ]
            intro d16
            intro d14
            simp only [d16, d14]
            refine gcase_run (by first | rfl | simp) ?_
            go_wp2_with (fail)
            refine done_mk ?_ rfl (Ext.refl _)
            rfl
          case oaq4r18 =>
            intro x U hU
            simp only [depV, One, dstOf, readDst, asBool, VP.is, VP.any, VP.row, VP.ptr, VP.blk, VP.ex, VP.and, VP.of, List.getD_cons_zero, List.getD_cons_succ]
            intro d17
            simp only [d17]
            refine gcase_run (by first | rfl | simp) ?_
            go_wp2_with (fail)
            refine done_mk ?_ rfl (Ext.refl _)
            rfl
          case oaq4r19 =>
            intro x U hU
            simp only [depV, One, dstOf, readDst, asBool, VP.is, VP.any, VP.row, VP.ptr, VP.blk, VP.ex, VP.and, VP.of, List.getD_cons_zero, List.getD_cons_succ]
            intro d17
            simp only [d17]
            refine gcase_run (by first | rfl | simp) ?_
            go_wp2_with (fail)
            refine done_mk ?_ rfl (Ext.refl _)
            rfl
          case oaq4r20 =>
            intro x U hU
            simp only [depV, One, dstOf, readDst, asBool, VP.is, VP.any, VP.row, VP.ptr, VP.blk, VP.ex, VP.and, VP.of, List.getD_cons_zero, List.getD_cons_succ]
            intro d18
            intro d19
            intro d17
            simp only [d18, d19, d17]
            refine gcase_run (by first | rfl | simp) ?_
            go_wp2_with (fail)
            refine done_mk ?_ rfl (Ext.refl _)
            rfl
          case oaq4r21 =>
            intro x U hU
            simp only [depV, One, dstOf, readDst, asBool, VP.is, VP.any, VP.row, VP.ptr, VP.blk, VP.ex, VP.and, VP.of, List.getD_cons_zero, List.getD_cons_succ]
            intro d20
            intro d17
            simp only [d20, d17]
            refine gcase_run (by first | rfl | simp) ?_
            have q0 := (hxr.trans hU).cell C1.out
            go_wp2_with (fail)
            refine done_mk ?_ rfl (Ext.refl _)
            rfl
          case oaq4r22 =>
            intro x U hU
            simp only [depV, One, dstOf, readDst, asBool, VP.is, VP.any, VP.row, VP.ptr, VP.blk, VP.ex, VP.and, VP.of, List.getD_cons_zero, List.getD_cons_succ]
            intro d17
            simp only [d17]
            refine gcase_run (by first | rfl | simp) ?_
            go_wp2_with (fail)
            refine done_mk ?_ rfl (Ext.refl _)
            rfl
          case oaq4r23 =>
            intro x U hU
            simp only [depV, One, dstOf, readDst, asBool, VP.is, VP.any, VP.row, VP.ptr, VP.blk, VP.ex, VP.and, VP.of, List.getD_cons_zero, List.getD_cons_succ]
            intro d17
            simp only [d17]
            refine gcase_run (by first | rfl | simp) ?_
            go_wp2_with (fail)
            refine done_mk ?_ rfl (Ext.refl _)
            rfl
          case oaq4r24 =>
            intro x U hU
            simp only [depV, One, dstOf, readDst, asBool, VP.is, VP.any, VP.row, VP.ptr, VP.blk, VP.ex, VP.and, VP.of, List.getD_cons_zero, List.getD_cons_succ]
            intro d23
            intro d17
            simp only [d23, d17]
            refine gcase_run (by first | rfl | simp) ?_
            go_wp2_with (fail)
            refine done_mk ?_ rfl (Ext.refl _)
            rfl
          case oaq4r25 =>
            intro x U hU
            simp only [depV, One, dstOf, readDst, asBool, VP.is, VP.any, VP.row, VP.ptr, VP.blk, VP.ex, VP.and, VP.of, List.getD_cons_zero, List.getD_cons_succ]
            intro d22
            intro d24
            intro d17
            simp only [d22, d24, d17]
            refine gcase_run (by first | rfl | simp) ?_
            go_wp2_with (fail)
            refine done_mk ?_ rfl (Ext.refl _)
            rfl
          case oaq4r26 =>
            intro x U hU
            simp only [depV, One, dstOf, readDst, asBool, VP.is, VP.any, VP.row, VP.ptr, VP.blk, VP.ex, VP.and, VP.of, List.getD_cons_zero, List.getD_cons_succ]
            intro d25
            intro d17
            simp only [d25, d17]
            refine gcase_run (by first | rfl | simp) ?_
            have q0 := (hxr.trans hU).cell C2.out
            go_wp2_with (fail)
            refine done_mk ?_ rfl (Ext.refl _)
            rfl
          case oaq4r27 =>
            intro x U hU
            simp only [depV, One, dstOf, readDst, asBool, VP.is, VP.any, VP.row, VP.ptr, VP.blk, VP.ex, VP.and, VP.of, List.getD_cons_zero, List.getD_cons_succ]
            intro d21
            intro d26
            intro d17
            simp only [d21, d26, d17]
            refine gcase_run (by first | rfl | simp) ?_
            go_wp2_with (fail)
            refine done_mk ?_ rfl (Ext.refl _)
            rfl
          case oaq4r28 =>
            intro x U hU
            simp only [depV, One, dstOf, readDst, asBool, VP.is, VP.any, VP.row, VP.ptr, VP.blk, VP.ex, VP.and, VP.of, List.getD_cons_zero, List.getD_cons_succ]
            intro d17
            intro d27
            intro d14
            simp only [d17, d27, d14]
            refine gcase_run (by first | rfl | simp) ?_
            go_wp2_with (fail)
            refine done_mk ?_ rfl (Ext.refl _)
            rfl
          case oaq4r29 =>
            intro x U hU
            simp only [depV, One, dstOf, readDst, asBool, VP.is, VP.any, VP.row, VP.ptr, VP.blk, VP.ex, VP.and, VP.of, List.getD_cons_zero, List.getD_cons_succ]
            intro d14
            intro d28
            simp only [d14, d28]
            go_wp2_with (fail)
            refine done_mk ?_ rfl (Ext.refl _)
            rfl
          case oaq4r30 =>
            intro x U hU
            simp only [depV, One, dstOf, readDst, asBool, VP.is, VP.any, VP.row, VP.ptr, VP.blk, VP.ex, VP.and, VP.of, List.getD_cons_zero, List.getD_cons_succ]
            intro d29
            simp only [d29]
            go_wp2_with (fail)
            refine done_mk ?_ rfl (Ext.refl _)
            rfl
          case oaq4r31 =>
            intro x U hU
            simp only [depV, One, dstOf, readDst, asBool, VP.is, VP.any, VP.row, VP.ptr, VP.blk, VP.ex, VP.and, VP.of, List.getD_cons_zero, List.getD_cons_succ]
            intro d30
            simp only [d30]
            refine gcase_run (by first | rfl | simp) ?_
            go_wp2_with (fail)
            refine done_mk ?_ rfl (Ext.refl _)
            rfl
          case oaq4r32 =>
            intro x U hU
            simp only [depV, One, dstOf, readDst, asBool, VP.is, VP.any, VP.row, VP.ptr, VP.blk, VP.ex, VP.and, VP.of, List.getD_cons_zero, List.getD_cons_succ]
            intro d31
            intro d30
            simp only [d31, d30]
            refine gcase_run (by first | rfl | simp) ?_
            go_wp2_with (fail)
            refine done_mk ?_ rfl (Ext.refl _)
            rfl
          case oaq4r33 =>
            intro x U hU
            simp only [depV, One, dstOf, readDst, asBool, VP.is, VP.any, VP.row, VP.ptr, VP.blk, VP.ex, VP.and, VP.of, List.getD_cons_zero, List.getD_cons_succ]
            intro d32
            intro d30
            simp only [d32, d30]
            refine gcase_run (by first | rfl | simp) ?_
            go_wp2_with (fail)
            refine done_mk ?_ rfl (Ext.refl _)
            rfl
          case oaq4r34 =>
            intro x U hU
            simp only [depV, One, dstOf, readDst, asBool, VP.is, VP.any, VP.row, VP.ptr, VP.blk, VP.ex, VP.and, VP.of, List.getD_cons_zero, List.getD_cons_succ]
            intro d33
            simp only [d33]
            exact gcase_skip (by first | decide | simp) (by first | rfl | trivial)
          case oaq4r35 =>
            intro x U hU
            simp only [depV, One, dstOf, readDst, asBool, VP.is, VP.any, VP.row, VP.ptr, VP.blk, VP.ex, VP.and, VP.of, List.getD_cons_zero, List.getD_cons_succ]
            intro d33
            simp only [d33]
            exact gcase_skip (by first | decide | simp) (by first | rfl | trivial)
          case oaq4r36 =>
            intro x U hU
            simp only [depV, One, dstOf, readDst, asBool, VP.is, VP.any, VP.row, VP.ptr, VP.blk, VP.ex, VP.and, VP.of, List.getD_cons_zero, List.getD_cons_succ]
            intro d34
            intro d35
            intro d33
            simp only [d34, d35, d33]
            exact gcase_skip (by first | decide | simp) (by first | rfl | trivial)
          case oaq4r37 =>
            intro x U hU
            simp only [depV, One, dstOf, readDst, asBool, VP.is, VP.any, VP.row, VP.ptr, VP.blk, VP.ex, VP.and, VP.of, List.getD_cons_zero, List.getD_cons_succ]
            intro d36
            intro d33
            simp only [d36, d33]
            exact gcase_skip (by first | decide | simp) (by first | rfl | trivial)
          case oaq4r38 =>
            intro x U hU
            simp only [depV, One, dstOf, readDst, asBool, VP.is, VP.any, VP.row, VP.ptr, VP.blk, VP.ex, VP.and, VP.of, List.getD_cons_zero, List.getD_cons_succ]
            intro d37
            intro d33
            simp only [d37, d33]
            exact gcase_skip (by first | decide | simp) (by first | rfl | trivial)
          case oaq4r39 =>
            intro x U hU
            simp only [depV, One, dstOf, readDst, asBool, VP.is, VP.any, VP.row, VP.ptr, VP.blk, VP.ex, VP.and, VP.of, List.getD_cons_zero, List.getD_cons_succ]
            intro d33
            intro d38
            intro d30
            simp only [d33, d38, d30]
            refine gcase_run (by first | rfl | simp) ?_
            go_wp2_with (fail)
            refine done_mk ?_ rfl (Ext.refl _)
            rfl
          case oaq4r40 =>
            intro x U hU
            simp only [depV, One, dstOf, readDst, asBool, VP.is, VP.any, VP.row, VP.ptr, VP.blk, VP.ex, VP.and, VP.of, List.getD_cons_zero, List.getD_cons_succ]
            intro d30
            intro d39
            simp only [d30, d39]
            go_wp2_with (fail)
            refine done_mk ?_ rfl (Ext.refl _)
            rfl
          case finaq4r =>
            intro x U hU
            simp only [allV, depV, One, dstOf, readDst, asBool, VP.is, VP.any, VP.row, VP.ptr, VP.blk, VP.ex, VP.and, VP.of, List.getD_cons_zero, List.getD_cons_succ]
            intro d0
            intro d1
            intro d2
            intro d3
            intro d4
            intro d5
            intro d6
            intro d7
            intro d8
            intro d9
            intro d10
            intro d11
            intro d12
            intro d13
            intro d14
            intro d15
            intro d16
            intro d17
            intro d18
            intro d19
            intro d20
            intro d21
            intro d22
            intro d23
            intro d24
            intro d25
            intro d26
            intro d27
            intro d28
            intro d29
            intro d30
            intro d31
            intro d32
            intro d33
            intro d34
            intro d35
            intro d36
            intro d37
            intro d38
            intro d39
            intro d40
            simp only [d0, d1, d2, d3, d4, d5, d6, d7, d8, d9, d10, d11, d12, d13, d14, d15, d16, d17, d18, d19, d20, d21, d22, d23, d24, d25, d26, d27, d28, d29, d30, d31, d32, d33, d34, d35, d36, d37, d38, d39, d40]
            clear d0 d1 d2 d3 d4 d5 d6 d7 d8 d9 d10 d11 d12 d13 d14 d15 d16 d17 d18 d19 d20 d21 d22 d23 d24 d25 d26 d27 d28 d29 d30 d31 d32 d33 d34 d35 d36 d37 d38 d39 d40
            replace hxr := hxr.trans hU
            clear hU
            go_wp2_with fail
            go_roundw
            case rel =>
              first
                | exact ⟨j + 1 + 1, by omega, by go_num, hxr⟩
                | (repeat apply Exists.intro
                   refine ⟨?_, rfl⟩
                   exact ⟨j + 1 + 1, by omega, by go_num, hxr⟩)
            case measure => simp [intOf]; omega
      · obtain rfl : k = len := by omega
        go_wp2_with fail
        go_ret
        exact ⟨rfl, hx.trans hxr⟩
end Go.Proofs.Ytkejcfbhikpibaa
