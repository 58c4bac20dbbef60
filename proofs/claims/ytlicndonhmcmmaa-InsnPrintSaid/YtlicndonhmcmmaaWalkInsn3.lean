import Derived.Test.YtlicndonhmcmmaaPrg9
import Derived.Test.YtlicndonhmcmmaaPrg7
namespace Go.Proofs.Ytlicndonhmcmmaa
open Go.RowKit Go.ChangeShapes Go.WideShapes
set_option linter.unusedVariables false
set_option linter.unusedSimpArgs false

theorem own_setB {w : World} {base g n cap : Nat} {t : TypeId} {kd : IntKind} {xs : List Int} (h : w.ownsRow base t 1 (.slice (some ⟨g, 0, none⟩) n cap) n (nums kd xs)) (k : Nat) (x : Int) :
    (w.setCell ⟨g, k, none⟩ (.int kd x)).ownsRow base t 1 (.slice (some ⟨g, 0, none⟩) n cap) n (nums kd (xs.set k x)) := by
  have := (h.stored k (.int kd x)).1
  rwa [show (nums kd xs).set k (.int kd x) = nums kd (xs.set k x) from by simp [nums, List.map_set]] at this
theorem own_cellB {w : World} {base g n cap : Nat} {t : TypeId} {kd : IntKind} {xs : List Int} (h : w.ownsRow base t 1 (.slice (some ⟨g, 0, none⟩) n cap) n (nums kd xs)) {k : Nat} (hk : k < xs.length) : w.cell? ⟨g, k, none⟩ = some (.int kd xs[k]) := by
  have hl := h.1
  rw [List.length_map, Nat.mul_one] at hl
  rw [h.cellAt k (by omega)]
  exact nums_at hk

set_option maxHeartbeats 2000000 in
set_option maxRecDepth 100000 in
theorem insnPrint_walk (A : Option Addr) (n c : Nat) (ps : List Ins) (hp : ps.length = n) (hm : n ≤ c ∧ c ≤ maxLen) (hok : ∀ i ∈ ps, i.ok) {W : World} (hM : InM W A (pc ps)) (_ : World) :
    Calls Try.prog 14 #[.slice A n c] W fun e w' => e = .returned (.bool true) ∧ Ext W w' := by
  by_cases big : 300 < n
  · have d1 : (300 : Int) < n := by omega
    clear hp hm hok hM
    go_enter Try.func14, Try.ntmps14
    go_wp2
    go_ret
    exact ⟨rfl, Ext.refl _⟩
  · have hb : n ≤ 300 := by omega
    have H1 := Lib.hid (refCopyI A n c ps W hp (by omega) hM)
    have H2 := Lib.hid (fun W h => refPrintI A n c ps W hp (by omega) hok h)
    have H3 := Lib.hid (fun B d W h => printI B n d ps W hp (by omega) hok h)
    have H4 := Lib.hid (fun P Q d e W h k => keepN (refSame_true P Q (8 * n) d e (pb ps) W (by rw [pb_length]; omega) (by omega) h k))
    have H5 := Lib.hid (fun B d W h k => refSameI_true B A n d n c ps W hp rfl (by omega) h k)
    have HM := Lib.hid hM
    have HP := Lib.hid hp
    have HO := Lib.hid hok
    have d1 : ¬ (300 : Int) < n := by omega
    have hx := Ext.refl W
    have hl8 := pb_length ps
    have HL := Lib.hid (show (pb ps).length = 8 * n by omega)
    clear hm hok hM hp big hl8
    generalize hbs : pb ps = bs at *
    clear hbs
    go_enter Try.func14, Try.ntmps14
    go_wp2_with fail
    refine (H1.out).mono ?_
    rintro e w1 ⟨B, d, rfl, ho1, hx'⟩
    replace hx := Ext.trans (by first | exact hx | exact hx.alloc _ | exact (hx.alloc _).alloc _ | exact hx.drew) hx'
    clear hx'
    have hm1 := own_inM ho1
    go_wp2_with fail
    refine (H2.out _ (HM.out.ext hx)).mono ?_
    rintro e w2 ⟨V, vc, rfl, ho2, hx'⟩
    replace hm1 := hm1.ext hx'
    have hm2 := own_inM ho2
    replace hx := hx.trans hx'
    clear hx' ho1 ho2
    go_wp2_with fail
    go_loopw [5] (fun i wr => ∃ t : Nat, t ≤ 2 ∧ i = .int .i64 t ∧ Ext W wr ∧ InM wr B (pc ps) ∧ InM wr V (nums .u8 bs)) (fun i _ => 2 - (intOf i).toNat)
    case atStart => exact ⟨0, by omega, rfl, hx, hm1, hm2⟩
    case round =>
      obtain ⟨w0, rfl⟩ : ∃ w0 : World, w0 = wr := ⟨_, rfl⟩
      clear hx hm1 hm2
      obtain ⟨t, ht, rfl, hx, hm1, hm2⟩ := hrel
      by_cases hlt : t < 2
      · have hlt2 : (t : Int) < 2 := by omega
        go_wp2_with fail
        refine (H3.out _ _ _ hm1).mono ?_
        rintro e w3 ⟨Q, q, rfl, ho3, hx3⟩
        go_wp2_with fail
        refine (H4.out _ _ _ _ _ (own_inM ho3) (hm2.ext hx3)).mono ?_
        rintro e w4 ⟨rfl, hx4⟩
        go_wp2_with fail
        refine (H5.out _ _ _ (hm1.ext (hx3.trans hx4)) (HM.out.ext (hx.trans (hx3.trans hx4)))).mono ?_
        rintro e w5 ⟨rfl, hx5⟩
        have hx6 := hx3.trans (hx4.trans hx5)
        have ho6 := own_ext ho3 (hx4.trans hx5)
        have hl := HL.out
        clear hx3 hx4 hx5 ho3
        go_wp2_with fail
        go_loopw [8] (fun i wr => ∃ (k : Nat) (bs' : List Int), k ≤ 8 * n ∧ i = .int .i64 k ∧ bs'.length = 8 * n ∧ Ext w0 wr ∧ wr.ownsRow w0.heap.size 5 1 (.slice Q (8 * n) q) (8 * n) (nums .u8 bs')) (fun i _ => 8 * n - (intOf i).toNat)
        case atStart => exact ⟨0, bs, by omega, rfl, hl, hx6, ho6⟩
        case round =>
          clear hx6 ho6 hl
          obtain ⟨k, bs', hk, rfl, hl, hx5, ho5⟩ := hrel
          by_cases hkm : k < 8 * n
          · obtain ⟨gp, cap, hP, _⟩ := ho5.form (by omega)
            simp only [Value.slice.injEq] at hP
            obtain ⟨rfl, -, rfl⟩ := hP
            have hkl : k < bs'.length := by omega
            have hc := own_cellB ho5 hkl
            have hf := ho5.frozenAt k
            have HS := Lib.hid (fun x => own_setB ho5 k x)
            have HX := Lib.hid (fun x => Ext.set hx5 (p := ⟨gp, k, none⟩) (own_base ho5) (.int .u8 x))
            have k1 : (0 : Int) ≤ k := by omega
            have k2 : (k : Int) < 8 * n := by omega
            generalize bs'[k] = E at *
            clear ho5 hx5 hkl
            go_wp2_with fail
            go_roundw
            case rel => exact ⟨k + 1, _, by omega, by go_num, by rw [List.length_set]; exact hl, HX.out _, HS.out _⟩
            case measure => simp [intOf]; omega
          · obtain rfl : k = 8 * n := by omega
            go_wp2_with fail
            go_roundw
            case rel => exact ⟨t + 1, by omega, by go_num, hx.trans hx5, hm1.ext hx5, hm2.ext hx5⟩
            case measure => simp [intOf]; omega
      · obtain rfl : t = 2 := by omega
        clear H1 H2 H3 H4 H5
        rw [show ((2 : Nat) : Int) = 2 from rfl]
        go_wp2_with fail
        go_loopw [9] (fun i wr => ∃ k : Nat, k ≤ n ∧ i = .int .i64 k ∧ Ext W wr) (fun i _ => n - (intOf i).toNat)
        case atStart => exact ⟨0, by omega, rfl, hx⟩
        case round =>
          clear hx hm1 hm2
          obtain ⟨k, hk, rfl, hx⟩ := hrel
          by_cases hkm : k < n
          · have hkp : k < ps.length := by rw [HP.out]; exact hkm
            have hM := HM.out
            obtain ⟨b1, o1, rfl, _⟩ := prog_some hM (by omega)
            have c1 := Lib.hid (fun (W' : World) (h : Ext W W') => prog_cells (hM.ext h) hkp)
            have E1 := Lib.hid (fun W => encode_any ps[k] (HO.out _ (List.getElem_mem hkp)) W)
            have E2 := Lib.hid (fun W => refEncode ps[k] (HO.out _ (List.getElem_mem hkp)) W)
            have E3 := Lib.hid (fun P Q d e W h k' => keepN (refSame_true P Q 8 d e (ps[k]'hkp).bytes W (bytes_len _) (by omega) h k'))
            clear HM hM HP HO
            generalize ps[k] = P at *
            obtain ⟨co, jt, jf, kk⟩ := P
            simp only [Ins.val, Ins.cells] at E1 E2
            generalize (Ins.mk co jt jf kk).bytes = bb at *
            have k1 : (0 : Int) ≤ k := by omega
            have k2 : (k : Int) < n := by omega
            go_wp2_with fail
            refine wp_region_mono rfl [.is ?va0, .is ?va1, .is ?va2, .is (.agg #[.int .u16 co, .int .u8 jt, .int .u8 jf, .int .u32 kk]), .row 8 (nums .u8 bb), .is ?va5, .is ?va6, .is ?va7, .is (.agg #[.int .u16 co, .int .u8 jt, .int .u8 jf, .int .u32 kk]), .row 8 (nums .u8 bb), .is ?va10, .is ?va11] (by kernel_rfl) (by kernel_rfl) ?Aa ?hAa ⟨?oa0, ?oa1, ?oa2, ?oa3, ?oa4, ?oa5, ?oa6, ?oa7, ?oa8, ?oa9, ?oa10, ?oa11, trivial⟩ ?fina
            case hAa => (intro x; simp only [fillOps, Act.put, List.setIfInBounds_toArray, List.set_cons_zero, List.set_cons_succ, Nat.reduceAdd]; rfl)
            case oa0 =>
              intro x U hU
              simp only [depV, One, dstOf, readDst, asBool, VP.is, VP.any, VP.row, VP.ptr, VP.blk, VP.ex, VP.and, VP.of, List.getD_cons_zero, List.getD_cons_succ]
              go_wp2_with (fail)
              refine done_mk ?_ rfl (Ext.refl _)
              rfl
            case oa1 =>
              intro x U hU
              simp only [depV, One, dstOf, readDst, asBool, VP.is, VP.any, VP.row, VP.ptr, VP.blk, VP.ex, VP.and, VP.of, List.getD_cons_zero, List.getD_cons_succ]
              go_wp2_with (fail)
              refine done_mk ?_ rfl (Ext.refl _)
              rfl
            case oa2 =>
              intro x U hU
              simp only [depV, One, dstOf, readDst, asBool, VP.is, VP.any, VP.row, VP.ptr, VP.blk, VP.ex, VP.and, VP.of, List.getD_cons_zero, List.getD_cons_succ]
              intro d0
              intro d1
              simp only [d0, d1]
              go_wp2_with (fail)
              refine done_mk ?_ rfl (Ext.refl _)
              rfl
            case oa3 =>
              intro x U hU
              simp only [depV, One, dstOf, readDst, asBool, VP.is, VP.any, VP.row, VP.ptr, VP.blk, VP.ex, VP.and, VP.of, List.getD_cons_zero, List.getD_cons_succ]
              intro d2
              simp only [d2]
              obtain ⟨h0, h1, h2, h3⟩ := c1.out _ (hx.trans hU)
              go_wp2_with (fail)
              refine done_mk ?_ rfl (Ext.refl _)
              rfl
            case oa4 =>
              intro x U hU
              simp only [depV, One, dstOf, readDst, asBool, VP.is, VP.any, VP.row, VP.ptr, VP.blk, VP.ex, VP.and, VP.of, List.getD_cons_zero, List.getD_cons_succ]
              intro d3
              simp only [d3]
              go_wp2_with ((refine (E1.out _).mono ?_; rintro e w1 ⟨Q, q, rfl, ho, hx1⟩))
              refine done_mk ?_ rfl (hx1)
              exact ⟨_, _, rfl, own_inM ho⟩
            case oa5 =>
              intro x U hU
              simp only [depV, One, dstOf, readDst, asBool, VP.is, VP.any, VP.row, VP.ptr, VP.blk, VP.ex, VP.and, VP.of, List.getD_cons_zero, List.getD_cons_succ]
              go_wp2_with (fail)
              refine done_mk ?_ rfl (Ext.refl _)
              rfl
            case oa6 =>
              intro x U hU
              simp only [depV, One, dstOf, readDst, asBool, VP.is, VP.any, VP.row, VP.ptr, VP.blk, VP.ex, VP.and, VP.of, List.getD_cons_zero, List.getD_cons_succ]
              go_wp2_with (fail)
              refine done_mk ?_ rfl (Ext.refl _)
              rfl
            case oa7 =>
              intro x U hU
              simp only [depV, One, dstOf, readDst, asBool, VP.is, VP.any, VP.row, VP.ptr, VP.blk, VP.ex, VP.and, VP.of, List.getD_cons_zero, List.getD_cons_succ]
              intro d5
              intro d6
              simp only [d5, d6]
              go_wp2_with (fail)
              refine done_mk ?_ rfl (Ext.refl _)
              rfl
            case oa8 =>
              intro x U hU
              simp only [depV, One, dstOf, readDst, asBool, VP.is, VP.any, VP.row, VP.ptr, VP.blk, VP.ex, VP.and, VP.of, List.getD_cons_zero, List.getD_cons_succ]
              intro d7
              simp only [d7]
              obtain ⟨h0, h1, h2, h3⟩ := c1.out _ (hx.trans hU)
              go_wp2_with (fail)
              refine done_mk ?_ rfl (Ext.refl _)
              rfl
            case oa9 =>
              intro x U hU
              simp only [depV, One, dstOf, readDst, asBool, VP.is, VP.any, VP.row, VP.ptr, VP.blk, VP.ex, VP.and, VP.of, List.getD_cons_zero, List.getD_cons_succ]
              intro d8
              simp only [d8]
              go_wp2_with ((refine (E2.out _).mono ?_; rintro e w1 ⟨Q, q, rfl, ho, hx1⟩))
              refine done_mk ?_ rfl (hx1)
              exact ⟨_, _, rfl, ho⟩
            case oa10 =>
              intro x U hU
              simp only [depV, One, dstOf, readDst, asBool, VP.is, VP.any, VP.row, VP.ptr, VP.blk, VP.ex, VP.and, VP.of, List.getD_cons_zero, List.getD_cons_succ]
              rintro ⟨A4, c4, d4, m4⟩
              rintro ⟨A9, c9, d9, m9⟩
              simp only [d4, d9]
              go_wp2_with ((refine (E3.out _ _ _ _ _ m4 m9).mono ?_; rintro e w1 ⟨rfl, hx1⟩))
              refine done_mk ?_ rfl (hx1)
              rfl
            case oa11 =>
              intro x U hU
              simp only [depV, One, dstOf, readDst, asBool, VP.is, VP.any, VP.row, VP.ptr, VP.blk, VP.ex, VP.and, VP.of, List.getD_cons_zero, List.getD_cons_succ]
              intro d10
              simp only [d10]
              go_wp2_with (fail)
              refine done_mk ?_ rfl (Ext.refl _)
              rfl
            case fina =>
              intro x U hU
              simp only [allV, depV, One, dstOf, readDst, asBool, VP.is, VP.any, VP.row, VP.ptr, VP.blk, VP.ex, VP.and, VP.of, List.getD_cons_zero, List.getD_cons_succ]
              intro d0
              intro d1
              intro d2
              intro d3
              rintro ⟨A4, c4, d4, m4⟩
              intro d5
              intro d6
              intro d7
              intro d8
              rintro ⟨A9, c9, d9, m9⟩
              intro d10
              intro d11
              simp only [d0, d1, d2, d3, d4, d5, d6, d7, d8, d9, d10, d11]
              clear d0 d1 d2 d3 d4 d5 d6 d7 d8 d9 d10 d11
              go_wp2_with fail
              go_roundw
              case rel => exact ⟨k + 1, by omega, by go_num, hx.trans hU⟩
              case measure => simp [intOf]; omega
          · obtain rfl : k = n := by omega
            go_wp2_with fail
            go_ret
            exact ⟨rfl, hx⟩
end Go.Proofs.Ytlicndonhmcmmaa
