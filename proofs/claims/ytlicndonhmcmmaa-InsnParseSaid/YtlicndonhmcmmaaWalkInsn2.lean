import Derived.Test.YtlicndonhmcmmaaPrg7
namespace Go.Proofs.Ytlicndonhmcmmaa
open Go.RowKit Go.ChangeShapes Go.WideShapes
set_option linter.unusedVariables false
set_option linter.unusedSimpArgs false

abbrev zI : Value := .agg #[.int .u16 0, .int .u8 0, .int .u8 0, .int .u32 0]
set_option maxHeartbeats 2000000 in
set_option maxRecDepth 100000 in
theorem insnParse_walk (A : Option Addr) (n c : Nat) (xs : List Int) (hn : xs.length = n) (hm : n ≤ c ∧ c ≤ maxLen) (hB : Byt xs) {W : World} (hM : InM W A (nums .u8 xs)) (_ : World) :
    Calls Try.prog 11 #[.slice A n c] W fun e w' => e = .returned (.bool true) ∧ Ext W w' := by
  by_cases big : 3000 < n
  · have d1 : (3000 : Int) < n := by omega
    clear hn hm hB hM
    go_enter Try.func11, Try.ntmps11
    go_wp2
    go_ret
    exact ⟨rfl, Ext.refl _⟩
  · have hb : n ≤ 3000 := by omega
    have HC := Lib.hid (refCopy A n c xs W hn (by omega) hM)
    have H1 := Lib.hid (fun g W (h : InM W (some g) (nums .u8 xs)) => parseI (some g) n n xs W (by omega) (by omega) hn hB h)
    have H2 := Lib.hid (fun W (h : InM W A (nums .u8 xs)) => refParseAny A n c xs W (by omega) hm hn hB h)
    have H3 := Lib.hid (fun g W (h : InM W (some g) (nums .u8 xs)) => decodeI (some g) n n xs W hn hB h)
    have hpl := dp_length xs (pm n)
    have hpm : pm n ≤ 375 := by unfold pm; split <;> omega
    have H4 := Lib.hid (fun P Q c d W (h : InM W P (pc (dp xs (pm n)))) (k : InM W Q (pc (dp xs (pm n)))) => refSameI_true P Q (pm n) c (pm n) d _ W hpl rfl (by omega) h k)
    have H5 := Lib.hid (fun g W (h : InM W (some g) (nums .u8 xs)) (k : InM W A (nums .u8 xs)) => keepN (refSame_true (some g) A n n c xs W hn (by omega) h k))
    have HL := Lib.hid hpl
    clear hpl
    generalize dp xs (pm n) = ps at *
    generalize pm n = m at *
    generalize pe n = er at *
    have d1 : ¬ (3000 : Int) < n := by omega
    have HA := Lib.hid hM
    clear hM big
    have D8 : Hid (n = 8 → dE n = 0 ∧ (∀ (A : Option Addr) c W, InM W A (nums .u8 xs) → Calls Try.prog 50 #[.slice A n c] W fun e w' => e = .returned (dI xs).val ∧ Ext W w')) := Lib.hid (fun h => by
      subst h
      refine ⟨rfl, fun A c W hM => ?_⟩
      unfold dI
      rw [if_pos hn]
      exact refDecode A c xs W hn hB hM)
    have DN : Hid (¬ n = 8 → dE n = 20 ∧ dI xs = zeroI) := Lib.hid (fun h => by
      unfold dE dI
      rw [if_neg h, if_neg (by omega)]
      exact ⟨rfl, rfl⟩)
    have hz1 := fun W => (ins_neq zeroI zeroI W)
    have hz2 := fun a b W => (ins_guard_neq zeroI zeroI a b W)
    simp only [Ins.val, Ins.cells, zeroI, decide_true, Bool.not_true] at hz1 hz2
    generalize dE n = eg at *
    generalize dI xs = D at *
    obtain ⟨co, jt, jf, kk⟩ := D
    have hq1 := fun W => (ins_neq ⟨co, jt, jf, kk⟩ ⟨co, jt, jf, kk⟩ W)
    have hq2 := fun a b W => (ins_guard_neq ⟨co, jt, jf, kk⟩ ⟨co, jt, jf, kk⟩ a b W)
    simp only [Ins.val, Ins.cells, decide_true, Bool.not_true] at hq1 hq2 H3 D8
    clear hm hB hn
    have s0 : ∀ z : Int, (z != z) = false := fun z => by simp
    go_enter Try.func11, Try.ntmps11
    go_wp2_with fail
    refine (HC.out).mono ?_
    rintro e w1 ⟨rfl, hb1, hx1⟩
    have hm1 : InM w1 (some ⟨W.heap.size, 0, none⟩) (nums .u8 xs) := InM.ofBlk hb1 (by simp)
    clear hb1
    generalize W.heap.size = g at *
    go_wp2_with fail
    go_loopw [4] (fun i wr => ∃ t : Nat, t ≤ 2 ∧ i = .int .i64 t ∧ Ext W wr ∧ InM wr (some ⟨g, 0, none⟩) (nums .u8 xs)) (fun i _ => 2 - (intOf i).toNat)
    case atStart => exact ⟨0, by omega, rfl, hx1, hm1⟩
    case round =>
      obtain ⟨w0, rfl⟩ : ∃ w0 : World, w0 = wr := ⟨_, rfl⟩
      clear hx1 hm1
      obtain ⟨t, ht, rfl, hx, hm1⟩ := hrel
      by_cases hlt : t < 2
      · have hlt2 : (t : Int) < 2 := by omega
        go_wp2_with fail
        refine (H1.out _ _ hm1).mono ?_
        rintro e w2 ⟨P, cP, rfl, ho2, hx2⟩
        go_wp2_with fail
        refine (H2.out _ (HA.out.ext (hx.trans hx2))).mono ?_
        rintro e w3 ⟨Q, cQ, rfl, ho3, hx3⟩
        go_wp2_with fail
        refine (H3.out _ _ (hm1.ext (hx2.trans hx3))).mono ?_
        rintro e w4 ⟨rfl, hx4⟩
        have Bd := Blk.new w4 73 #[.int .u16 co, .int .u8 jt, .int .u8 jf, .int .u32 kk]
        have hx5 := (Ext.refl w4).alloc (.cells #[.int .u16 co, .int .u8 jt, .int .u8 jf, .int .u32 kk] 73)
        have e5 := s0 er
        go_wp2_with fail
        generalize w4.alloc (.cells #[.int .u16 co, .int .u8 jt, .int .u8 jf, .int .u32 kk] 73) = w5 at *
        generalize w4.heap.size = gd at *
        refine (H4.out _ _ _ _ _ ((own_inM ho2).ext (hx3.trans (hx4.trans hx5))) ((own_inM ho3).ext (hx4.trans hx5))).mono ?_
        rintro e w6 ⟨rfl, hx6⟩
        have hx26 := hx3.trans (hx4.trans (hx5.trans hx6))
        go_wp2_with fail
        refine (H5.out _ _ (hm1.ext (hx2.trans hx26)) (HA.out.ext (hx.trans (hx2.trans hx26)))).mono ?_
        rintro e w7 ⟨rfl, hx7⟩
        have Bd7 := (Bd.ext hx6).ext hx7
        have q0 := Bd7.cell 0
        have q1 := Bd7.cell 1
        have q2 := Bd7.cell 2
        have q3 := Bd7.cell 3
        have hx27 := hx26.trans hx7
        clear hx3 hx4 hx5 hx6 hx7 hx26
        by_cases h8 : n = 8
        · obtain ⟨e8, HD⟩ := D8.out h8
          have d8 : ((n : Int) != 8) = false := by simp; omega
          subst e8
          have HD := Lib.hid HD
          clear h8
          go_wp2_with fail
          refine wp_region_mono rfl [.is ?va0, .is ?va1, .is ?va2, .is ?va3, .is ?va4, .is ?va5, .is ?va6, .is ?va7] (by kernel_rfl) (by kernel_rfl) ?Aa ?hAa ⟨?oa0, ?oa1, ?oa2, ?oa3, ?oa4, ?oa5, ?oa6, ?oa7, trivial⟩ ?fina
          case hAa => (intro x; simp only [fillOps, Act.put, List.setIfInBounds_toArray, List.set_cons_zero, List.set_cons_succ, Nat.reduceAdd]; rfl)
          case oa0 =>
            intro x U hU
            simp only [depV, One, dstOf, readDst, asBool, VP.is, VP.any, VP.row, VP.ptr, VP.blk, VP.ex, VP.and, VP.of, List.getD_cons_zero, List.getD_cons_succ]
            go_wp2_with (fail)
            refine done_mk ?_ rfl (Ext.refl _)
            rfl
          case oa1 =>
            intro x U hU
            simp only [depV, One, dstOf, readDst, asBool, VP.is, VP.any, VP.row, VP.ptr, VP.blk, VP.ex, VP.and, VP.of, List.getD_cons_zero, List.getD_cons_succ]
            intro d0
            simp only [d0]
            go_wp2_with (fail)
            refine done_mk ?_ rfl (Ext.refl _)
            rfl
          case oa2 =>
            intro x U hU
            simp only [depV, One, dstOf, readDst, asBool, VP.is, VP.any, VP.row, VP.ptr, VP.blk, VP.ex, VP.and, VP.of, List.getD_cons_zero, List.getD_cons_succ]
            intro d1
            simp only [d1]
            go_wp2_with (fail)
            refine done_mk ?_ rfl (Ext.refl _)
            rfl
          case oa3 =>
            intro x U hU
            simp only [depV, One, dstOf, readDst, asBool, VP.is, VP.any, VP.row, VP.ptr, VP.blk, VP.ex, VP.and, VP.of, List.getD_cons_zero, List.getD_cons_succ]
            intro d2
            simp only [d2]
            refine gcase_run (by first | rfl | simp) ?_
            have q0 := hU.cell q0
            have q1 := hU.cell q1
            have q2 := hU.cell q2
            have q3 := hU.cell q3
            go_wp2_with (fail)
            refine done_mk ?_ rfl (Ext.refl _)
            rfl
          case oa4 =>
            intro x U hU
            simp only [depV, One, dstOf, readDst, asBool, VP.is, VP.any, VP.row, VP.ptr, VP.blk, VP.ex, VP.and, VP.of, List.getD_cons_zero, List.getD_cons_succ]
            intro d2
            simp only [d2]
            refine gcase_run (by first | rfl | simp) ?_
            go_wp2_with (fail)
            refine done_mk ?_ rfl (Ext.refl _)
            rfl
          case oa5 =>
            intro x U hU
            simp only [depV, One, dstOf, readDst, asBool, VP.is, VP.any, VP.row, VP.ptr, VP.blk, VP.ex, VP.and, VP.of, List.getD_cons_zero, List.getD_cons_succ]
            intro d4
            intro d2
            simp only [d4, d2]
            refine gcase_run (by first | rfl | simp) ?_
            go_wp2_with ((refine (HD.out A c U (HA.out.ext (((hx.trans hx2).trans hx27).trans hU))).mono ?_; rintro e w8 ⟨rfl, hx8⟩))
            refine done_mk ?_ rfl (hx8)
            rfl
          case oa6 =>
            intro x U hU
            simp only [depV, One, dstOf, readDst, asBool, VP.is, VP.any, VP.row, VP.ptr, VP.blk, VP.ex, VP.and, VP.of, List.getD_cons_zero, List.getD_cons_succ]
            intro d3
            intro d5
            intro d2
            simp only [d3, d5, d2]
            refine gcase_run (by first | rfl | simp) ?_
            go_wp2_with (fail)
            refine done_mk ?_ rfl (Ext.refl _)
            rfl
          case oa7 =>
            intro x U hU
            simp only [depV, One, dstOf, readDst, asBool, VP.is, VP.any, VP.row, VP.ptr, VP.blk, VP.ex, VP.and, VP.of, List.getD_cons_zero, List.getD_cons_succ]
            intro d2
            intro d6
            simp only [d2, d6]
            go_wp2_with (fail)
            refine done_mk ?_ rfl (Ext.refl _)
            rfl
          case fina =>
            intro x U hU
            simp only [allV, depV, One, dstOf, readDst, asBool, VP.is, VP.any, VP.row, VP.ptr, VP.blk, VP.ex, VP.and, VP.of, List.getD_cons_zero, List.getD_cons_succ]
            intro d0
            intro d1
            intro d2
            intro d3
            intro d4
            intro d5
            intro d6
            intro d7
            simp only [d0, d1, d2, d3, d4, d5, d6, d7]
            clear d0 d1 d2 d3 d4 d5 d6 d7
            go_wp2_with fail
            clear HA H1 H2 H3 H4 H5 D8 DN hz1 hz2 hq1 hq2 HC
            have ho5 := own_ext ho2 (hx27.trans hU)
            have hx5 := hx2.trans (hx27.trans hU)
            have hm5 := hm1.ext hx5
            have hpl := HL.out
            clear ho2 ho3 q0 q1 q2 q3 Bd Bd7 hx27 hx2
            go_loopw [11] (fun i wr => ∃ (k : Nat) (ps' : List Ins), k ≤ m ∧ i = .int .i64 k ∧ ps'.length = m ∧ Ext w0 wr ∧ wr.ownsRow w0.heap.size 73 4 (.slice P m cP) m (pc ps')) (fun i _ => m - (intOf i).toNat)
            case atStart => exact ⟨0, ps, by omega, rfl, hpl, hx5, ho5⟩
            case round =>
              clear hx5 ho5 hm5 hpl HL
              obtain ⟨k, ps', hk, rfl, hl, hx5, ho5⟩ := hrel
              by_cases hkm : k < m
              · obtain ⟨gp, cap, hP, _⟩ := ho5.form (by omega)
                simp only [Value.slice.injEq] at hP
                obtain ⟨rfl, -, rfl⟩ := hP
                have hkl : k < ps'.length := by omega
                have hc := (prog_cells (own_inM ho5) hkl).2.2.2
                have hf := ho5.frozenAt (k * 4 + 3)
                have HS := Lib.hid (fun x => own_setK ho5 hkl x)
                have HX := Lib.hid (fun x => Ext.set hx5 (p := ⟨gp, k * 4 + 3, none⟩) (own_base ho5) (.int .u32 x))
                have k1 : (0 : Int) ≤ k := by omega
                have k2 : (k : Int) < m := by omega
                generalize ps'[k] = E at *
                obtain ⟨e0, e1, e2, e3⟩ := E
                simp only [Nat.zero_add] at hc
                clear ho5 hx5 hkl
                go_wp2_with fail
                go_roundw
                case rel => exact ⟨k + 1, _, by omega, by go_num, by rw [List.length_set]; exact hl, HX.out _, HS.out _⟩
                case measure => simp [intOf]; omega
              · obtain rfl : k = m := by omega
                go_wp2_with fail
                go_roundw
                case rel => exact ⟨t + 1, by omega, by go_num, hx.trans hx5, hm1.ext hx5⟩
                case measure => simp [intOf]; omega
        · obtain ⟨e8, e9⟩ := DN.out h8
          have d8 : ((n : Int) != 8) = true := by simp; omega
          subst e8
          simp only [zeroI, Ins.mk.injEq] at e9
          obtain ⟨rfl, rfl, rfl, rfl⟩ := e9
          clear h8
          go_wp2_with fail
          clear HA H1 H2 H3 H4 H5 D8 DN hz1 hz2 hq1 hq2 HC
          have ho5 := own_ext ho2 hx27
          have hx5 := hx2.trans hx27
          have hm5 := hm1.ext hx5
          have hpl := HL.out
          clear ho2 ho3 q0 q1 q2 q3 Bd Bd7 hx27 hx2
          go_loopw [11] (fun i wr => ∃ (k : Nat) (ps' : List Ins), k ≤ m ∧ i = .int .i64 k ∧ ps'.length = m ∧ Ext w0 wr ∧ wr.ownsRow w0.heap.size 73 4 (.slice P m cP) m (pc ps')) (fun i _ => m - (intOf i).toNat)
          case atStart => exact ⟨0, ps, by omega, rfl, hpl, hx5, ho5⟩
          case round =>
            clear hx5 ho5 hm5 hpl HL
            obtain ⟨k, ps', hk, rfl, hl, hx5, ho5⟩ := hrel
            by_cases hkm : k < m
            · obtain ⟨gp, cap, hP, _⟩ := ho5.form (by omega)
              simp only [Value.slice.injEq] at hP
              obtain ⟨rfl, -, rfl⟩ := hP
              have hkl : k < ps'.length := by omega
              have hc := (prog_cells (own_inM ho5) hkl).2.2.2
              have hf := ho5.frozenAt (k * 4 + 3)
              have HS := Lib.hid (fun x => own_setK ho5 hkl x)
              have HX := Lib.hid (fun x => Ext.set hx5 (p := ⟨gp, k * 4 + 3, none⟩) (own_base ho5) (.int .u32 x))
              have k1 : (0 : Int) ≤ k := by omega
              have k2 : (k : Int) < m := by omega
              generalize ps'[k] = E at *
              obtain ⟨e0, e1, e2, e3⟩ := E
              simp only [Nat.zero_add] at hc
              clear ho5 hx5 hkl
              go_wp2_with fail
              go_roundw
              case rel => exact ⟨k + 1, _, by omega, by go_num, by rw [List.length_set]; exact hl, HX.out _, HS.out _⟩
              case measure => simp [intOf]; omega
            · obtain rfl : k = m := by omega
              go_wp2_with fail
              go_roundw
              case rel => exact ⟨t + 1, by omega, by go_num, hx.trans hx5, hm1.ext hx5⟩
              case measure => simp [intOf]; omega
      · obtain rfl : t = 2 := by omega
        go_wp2
        go_ret
        exact ⟨rfl, hx⟩
end Go.Proofs.Ytlicndonhmcmmaa
