import Derived.Test.YtjlhfmedaandeaaLref4
import Derived.Test.YtjlhfmedaandeaaLrefP
/- vestibuleref27.Link: the program. -/
namespace Go.Proofs.Ytjlhfmedaandeaa
open Go.RowKit Go.ChangeShapes Go.WideShapes
set_option linter.unusedVariables false
set_option linter.unusedSimpArgs false

theorem World.ownsRow.ext_ {w w' : World} {base : Nat} {e : TypeId} {size n : Nat} {v : Value} {xs : List Value} (h : w.ownsRow base e size v n xs) (x : Ext w w') : w'.ownsRow base e size v n xs := own_ext h x
set_option maxHeartbeats 4000000 in
set_option maxRecDepth 100000 in
theorem refLinkYes (A : Option Addr) (n c : Nat) (ps : List Sy) (w : World) (hp : ps.length = n) (hok : ∀ i ∈ ps, i.ok) (hM : InM w A (sc ps)) (h : mayL ps = true) (hb : (lall ps).bk.length ≤ 4096) :
    Calls Try.prog 18 #[.slice A n c] w fun e w' => ∃ B cv, e = .returned (.tuple #[.slice B (lall ps).bk.length cv, .int .i64 0]) ∧ InM w' B (pc (lall ps).bk.reverse) ∧ Ext w w' := by
  have hY := mayL_of h
  have n2 : n ≤ 131072 := by have := hY.l2; omega
  have H := Lib.hid (refMay25 A n c ps w hp hok (by unfold maxLen; omega) hM)
  rw [h] at H
  have HS := Lib.hid (fun W hW => refSizes A n c ps W hp hY hW)
  have HM := Lib.hid hM
  have hl := len_same ps hY
  have hpr := prog_same ps hY
  rw [hp] at hl hpr
  obtain ⟨hz, hzl⟩ := szUp_bd ps (List.range n).reverse
  rw [hp] at hzl
  have hsa := szUp_all ps
  rw [hp] at hsa
  have HSA := Lib.hid hsa
  clear hsa
  have hlen : (lall ps).bk.length = (fromR ps (szUp ps (List.range n).reverse) 0 n).length := by rw [← hpr, List.length_reverse]
  have HD0 := Lib.hid (fun g W (hW : Blk W g 3 (nums .i64 (szUp ps (List.range n).reverse)).toArray) => refDist (some ⟨g, 0, none⟩) n n (szUp ps (List.range n).reverse) hzl n2 hz 0 n (Nat.le_refl _) (by omega) W (InM.ofBlk hW rfl))
  rw [Nat.sub_zero, ← hl] at HD0
  have HPR0 := Lib.hid hpr
  have HLEN := Lib.hid hlen
  have HP := Lib.hid hp
  have HYY := Lib.hid hY
  rw [hpr]
  generalize (lall ps).bk.length = nb at *
  have y1 : decide ((4096 : Int) < nb) = false := by simp; omega
  generalize szUp ps (List.range n).reverse = sz at *
  obtain ⟨i0, hi, hz0, hz1, hz2⟩ := info_parts info_ins
  have HI := Lib.hid hi; have HZ0 := Lib.hid hz0; have HZ1 := Lib.hid hz1; have HZ2 := Lib.hid hz2
  have HZ := Lib.hid hz
  have HZL := Lib.hid hzl
  clear hp hok hM h hY hl hz hzl hpr hlen hi hz0 hz1 hz2
  go_enter Try.func18, Try.ntmps18
  go_wp2_with fail
  refine H.out.mono ?_
  rintro e w1 ⟨rfl, hx1⟩
  go_wp2_with fail
  refine (HS.out _ (HM.out.ext hx1)).mono ?_
  rintro e w2 ⟨rfl, hb2, hx2⟩
  go_wp2_with fail
  refine (HD0.out _ _ hb2).mono ?_
  rintro e w3 ⟨rfl, hx3⟩
  have hx := (hx1.trans hx2).trans hx3
  have hb3 := hb2.ext hx3
  generalize w1.heap.size = g at *
  clear hx1 hx2 hx3 hb2 H HS HD0
  go_wp2_with fail
  go_loopw [5, 6] (fun o it W => ∃ (k : Nat) (A1 : Option Addr) (c1 : Nat) (pr : List Ins), k ≤ n ∧ it = .int .i64 k ∧ pr = fromR ps sz 0 k ∧ (o = .slice A1 pr.length c1 ∧ W.ownsRow w3.heap.size 43 4 (.slice A1 pr.length c1) pr.length (pc pr)) ∧ Ext w3 W) (fun _ it _ => n - (intOf it).toNat)
  case atStart => exact ⟨0, none, 0, [], Nat.zero_le _, rfl, rfl, ⟨rfl, World.ownsRow_nil _ _ _ _⟩, Ext.refl _⟩
  case round =>
    obtain ⟨k, A1, c1, pr, hk, rfl, hpr, ⟨rfl, ho⟩, hy3⟩ := hrel
    have hy := hx.trans hy3
    by_cases hlt : k < n
    · have hkp : k < ps.length := by rw [HP.out]; exact hlt
      obtain ⟨bA, oA, rfl, hbA⟩ := sym_some HM.out (by omega)
      have PC := Lib.hid (fun W' (h : Ext w W') => sym_cells (HM.out.ext h) hkp)
      have hK := kind_of (HYY.out.one k hkp)
      have HSN := Lib.hid (by have := fromR_snoc ps sz k 0; rw [Nat.zero_add] at this; exact this)
      have HPR := Lib.hid hpr.symm
      have hpl : pr.length ≤ 393216 := by have := fromR_len ps sz k 0; rw [← hpr] at this; omega
      have hin : insR ps sz k = insR ps sz k := rfl
      unfold insR at hin
      rw [HP.out] at hK
      rw [getD_sy hkp] at hK
      have HAS := Lib.hid (fun W' => refAsks27 ps[k] W')
      have hgd := getD_sy hkp
      have HIN0 : insR ps sz k = if ps[k].code = 5 then [⟨5, 0, 0, dsum sz (k + 1) (ps[k].th.toNat - (k + 1))⟩]
          else if asksC ps[k].code = false then [⟨ps[k].code, 0, 0, ps[k].k⟩]
          else if sz.getD k 0 = 1 then [⟨ps[k].code, dsum sz (k + 1) (ps[k].th.toNat - (k + 1)), dsum sz (k + 1) (ps[k].el.toNat - (k + 1)), ps[k].k⟩]
          else [⟨ps[k].code, 0, 1, ps[k].k⟩, ⟨5, 0, 0, dsum sz (k + 1) (ps[k].th.toNat - (k + 1)) + 1⟩, ⟨5, 0, 0, dsum sz (k + 1) (ps[k].el.toNat - (k + 1))⟩] := by
        unfold insR
        rw [hgd]
      have HSZ : (sz.getD k 0 = 1 ∧ (asksC ps[k].code = true → dsum sz (k + 1) (ps[k].th.toNat - (k + 1)) ≤ 255 ∧ dsum sz (k + 1) (ps[k].el.toNat - (k + 1)) ≤ 255)) ∨ sz.getD k 0 = 3 := by
        rw [HSA.out k hlt]
        unfold szOf
        rw [hgd]
        cases asksC ps[k].code
        · exact Or.inl ⟨rfl, by simp⟩
        · by_cases e : (decide (255 < dsum sz (k + 1) (ps[k].th.toNat - (k + 1))) || decide (255 < dsum sz (k + 1) (ps[k].el.toNat - (k + 1)))) = true
          · rw [e]; exact Or.inr rfl
          · rw [Bool.not_eq_true] at e
            rw [e]
            simp at e
            exact Or.inl ⟨rfl, fun _ => by omega⟩
      have HDB := Lib.hid (fun q => dsum_bd sz HZ.out (k + 1) q)
      have HDT := Lib.hid (fun (t : Nat) (ht : t ≤ n) (W' : World) (hW : Blk W' g 3 (nums .i64 sz).toArray) => by
        have h := refDist (some ⟨g, 0, none⟩) n n sz HZL.out n2 HZ.out (k + 1) t ht (by omega) W' (InM.ofBlk hW rfl)
        rw [show (((k + 1 : Nat)) : Int) - 1 = (k : Int) by omega] at h
        exact h)
      clear hin hgd
      generalize ps[k] = s at *
      obtain ⟨co, kk, th, el⟩ := s
      unfold Sy.val Sy.cells at HAS
      dsimp only at HAS HIN0 PC HSZ
      have bs := Blk.new wr 32 #[.int .u16 co, .int .u32 kk, .int .i64 th, .int .i64 el]
      have hE0 := (Ext.refl wr).alloc (.cells #[.int .u16 co, .int .u32 kk, .int .i64 th, .int .i64 el] 32)
      obtain ⟨q0, q1, q2, q3⟩ := PC.out _ hy
      have k0 : (0 : Int) ≤ k := by omega
      have k1 : (k : Int) < n := by omega
      have s0 := (bs).cell 0
      have s1 := (bs).cell 1
      have s2 := (bs).cell 2
      have s3 := (bs).cell 3
      clear hpr hkp hbA
      by_cases h5 : co = 5
      · obtain ⟨t, rfl, ht1, ht2⟩ : ∃ t : Nat, th = t ∧ k < t ∧ t < n := by
          rcases hK with ⟨h, _, _, _⟩ | ⟨h, _, _⟩ | ⟨h, _, _⟩ | ⟨h, _, _, h9⟩ | ⟨h, _, _⟩
          · dsimp only at h; omega
          · dsimp only at h; omega
          · dsimp only at h; omega
          · dsimp only at h9; exact ⟨th.toNat, by omega, by omega, by omega⟩
          · dsimp only at h; omega
        rw [if_pos h5, Int.toNat_natCast] at HIN0
        subst h5
        have hd := HDB.out (t - (k + 1))
        have HDD := Lib.hid (HDT.out t (by omega))
        generalize dsum sz (k + 1) (t - (k + 1)) = d at *
        have w32 : IntKind.u32.wrap d = d := IntWalk.u32_in _ (by omega)
        have HIN := Lib.hid HIN0
        clear HIN0 hK hd
        go_wp2_with fail
        refine (HDD.out _ (hb3.ext (hy3.trans hE0))).mono ?_
        rintro e w7 ⟨rfl, hx7⟩
        have hE7 := hE0.trans hx7
        clear q0 q1 q2 q3 s0 s1 s2 s3
        have hl1 : (pc pr).length = pr.length * 4 := by rw [pc_length]; omega
        have ho7 := own_ext ho ((hE7).alloc (.cells #[.int .u16 5, .int .u8 0, .int .u8 0, .int .u32 d] 43))
        have hy7 := (hy3.trans hE7).alloc (.cells #[.int .u16 5, .int .u8 0, .int .u8 0, .int .u32 d] 43)
        have hrow : InM ((w7).alloc (.cells #[.int .u16 5, .int .u8 0, .int .u8 0, .int .u32 d] 43)) (some ⟨(w7).heap.size, 0, none⟩) (pc [⟨5, 0, 0, d⟩]) := InM.ofBlk (Blk.new _ _ _) rfl
        have hb1 : pr.length + 1 ≤ 1000000 := by omega
        have hb0 : 8 ≤ 10000 := by decide
        go_wp2_with (refine wpList_app rfl (.tmp 82) (.tmp 90) 33 rfl w3.heap.size 43 i0 _ 4 8 Try.underlying33 HI.out HZ0.out HZ1.out HZ2.out rfl (by decide) A1 pr.length c1 (pc pr) rfl ho7 _ 1 1 (pc [⟨5, 0, 0, d⟩]) rfl rfl hrow (pc_one _) hb1 hb0 hy7.size ?_; intro A2 c2 w8 ho8 hg8 hzz; clear hzz; have hx8 := hy7.app ho7 (Nat.le_refl _) hg8; rw [← pc_append] at ho8)
        clear ho7 hy7 hrow hl1 hb0 hb1
        go_roundw
        case rel => exact ⟨k + 1, A2, c2, pr ++ [⟨5, 0, 0, d⟩], by omega, by go_num, by rw [HSN.out, HPR.out, HIN.out], ⟨by rw [List.length_append]; rfl, by rw [List.length_append]; exact ho8⟩, hx8⟩
        case measure => simp [intOf]; omega
      · rcases hA : asksC co with _ | _
        · have HIN := Lib.hid (HIN0.trans (by rw [if_neg h5, if_pos hA]))
          have e5 : (co == 5) = false := by simpa using h5
          clear HIN0 hK
          go_wp2_with fail
          refine (HAS.out _).mono ?_
          rintro e w7 ⟨rfl, hx7⟩
          rw [hA]
          have hE7 := hE0.trans hx7
          clear q0 q1 q2 q3 s0 s1 s2 s3 hA
          replace bs := bs.ext hx7
          have s0 := (bs).cell 0
          have s1 := (bs).cell 1
          have s2 := (bs).cell 2
          have s3 := (bs).cell 3
          have hl1 : (pc pr).length = pr.length * 4 := by rw [pc_length]; first | omega | (simp only [List.length_append, List.length_cons, List.length_nil]; omega)
          have ho7 := own_ext ho ((hE7).alloc (.cells #[.int .u16 co, .int .u8 0, .int .u8 0, .int .u32 kk] 43))
          have hy7 := ((hy3).trans hE7).alloc (.cells #[.int .u16 co, .int .u8 0, .int .u8 0, .int .u32 kk] 43)
          have hrow : InM ((w7).alloc (.cells #[.int .u16 co, .int .u8 0, .int .u8 0, .int .u32 kk] 43)) (some ⟨(w7).heap.size, 0, none⟩) (pc [⟨co, 0, 0, kk⟩]) := InM.ofBlk (Blk.new _ _ _) rfl
          have hb1 : pr.length + 1 ≤ 1000000 := by omega
          have hb0 : 8 ≤ 10000 := by decide
          go_wp2_with (refine wpList_app rfl (.tmp 96) (.tmp 102) 33 rfl w3.heap.size 43 i0 _ 4 8 Try.underlying33 HI.out HZ0.out HZ1.out HZ2.out rfl (by decide) A1 (pr.length) c1 (pc pr) rfl ho7 _ 1 1 (pc [⟨co, 0, 0, kk⟩]) rfl rfl hrow (pc_one _) hb1 hb0 hy7.size ?_; intro A8 c8 w8 ho8 hg8 hzz; clear hzz; have hx8 := hy7.app ho7 (Nat.le_refl _) hg8; rw [← pc_append] at ho8; clear hg8)
          clear ho7 hy7 hrow hl1 hb0 hb1
          go_roundw
          case rel => exact ⟨k + 1, A8, c8, pr ++ [⟨co, 0, 0, kk⟩], by omega, by go_num, by rw [HSN.out, HPR.out, HIN.out], ⟨by rw [List.length_append]; rfl, by rw [List.length_append]; exact ho8⟩, hx8⟩
          case measure => simp [intOf]; omega
        · have e5 : (co == 5) = false := by simpa using h5
          obtain ⟨t, u, rfl, rfl, ht1, ht2, hu1, hu2⟩ : ∃ t u : Nat, th = t ∧ el = u ∧ k < t ∧ t < n ∧ k < u ∧ u < n := by
            rcases hK with ⟨h, _, _, _⟩ | ⟨h, _, _⟩ | ⟨h, _, _⟩ | ⟨h, _, _, h9⟩ | ⟨_, h8, h9⟩
            · dsimp only at h; subst h; exact absurd hA (by decide)
            · dsimp only at h; subst h; exact absurd hA (by decide)
            · dsimp only at h; subst h; exact absurd hA (by decide)
            · dsimp only at h; exact absurd h h5
            · dsimp only at h8 h9; exact ⟨th.toNat, el.toNat, by omega, by omega, by omega, by omega, by omega, by omega⟩
          rw [if_neg h5, if_neg (by rw [hA]; decide), Int.toNat_natCast, Int.toNat_natCast] at HIN0
          rw [Int.toNat_natCast, Int.toNat_natCast] at HSZ
          have hd := HDB.out (t - (k + 1))
          have hd2 := HDB.out (u - (k + 1))
          have HDD := Lib.hid (HDT.out t (by omega))
          have HDU := Lib.hid (HDT.out u (by omega))
          generalize dsum sz (k + 1) (t - (k + 1)) = d at *
          generalize dsum sz (k + 1) (u - (k + 1)) = d2 at *
          have w32 : IntKind.u32.wrap (d + 1) = d + 1 := IntWalk.u32_in _ (by omega)
          have w64 : IntKind.i64.wrap (d + 1) = d + 1 := IntWalk.i64_in _ (by omega)
          have w322 : IntKind.u32.wrap d2 = d2 := IntWalk.u32_in _ (by omega)
          have hkz : k < sz.length := by rw [HZL.out]; exact hlt
          have HCZ := Lib.hid (fun (W' : World) (hW : Blk W' g 3 (nums .i64 sz).toArray) => (hW.cell k).trans (show ((nums .i64 sz).toArray)[k]? = some (.int .i64 (sz.getD k 0)) from by rw [List.getElem?_toArray, nums_at hkz, List.getD_eq_getElem?_getD, List.getElem?_eq_getElem hkz]; rfl))
          generalize sz.getD k 0 = zz at *
          clear hK
          go_wp2_with fail
          refine (HAS.out _).mono ?_
          rintro e w7 ⟨rfl, hx7⟩
          rw [hA]
          have hA0 := hA
          have hE7 := hE0.trans hx7
          clear q0 q1 q2 q3 s0 s1 s2 s3 hA
          have BS := Lib.hid (bs.ext hx7)
          have B3 := Lib.hid (hb3.ext (hy3.trans hE7))
          clear bs
          go_wp2_with fail
          refine wp_region_mono rfl [.is ?va0, .is ?va1, .is ?va2, .is (.int .i64 (t : Int)), .is (.int .i64 d), .is ?va5, .is ?va6, .is ?va7, .is (.int .i64 (u : Int)), .is (.int .i64 d2), .is ?va10, .is ?va11] (by kernel_rfl) (by kernel_rfl) ?Aa ?hAa ⟨?oa0, ?oa1, ?oa2, ?oa3, ?oa4, ?oa5, ?oa6, ?oa7, ?oa8, ?oa9, ?oa10, ?oa11, trivial⟩ ?fina
          case hAa => (intro x; simp only [fillOps, Act.put, List.setIfInBounds_toArray, List.set_cons_zero, List.set_cons_succ, Nat.reduceAdd]; rfl)
          case oa0 =>
            intro x U hU
            simp only [depV, One, dstOf, readDst, asBool, VP.is, VP.any, VP.row, VP.ptr, VP.blk, VP.ex, VP.and, VP.of, List.getD_cons_zero, List.getD_cons_succ]
            go_wp2_with (fail)
            refine done_mk ?_ rfl (Ext.refl _)
            rfl
          case oa1 =>
            intro x U hU
            simp only [depV, One, dstOf, readDst, asBool, VP.is, VP.any, VP.row, VP.ptr, VP.blk, VP.ex, VP.and, VP.of, List.getD_cons_zero, List.getD_cons_succ]
            go_wp2_with (fail)
            refine done_mk ?_ rfl (Ext.refl _)
            rfl
          case oa2 =>
            intro x U hU
            simp only [depV, One, dstOf, readDst, asBool, VP.is, VP.any, VP.row, VP.ptr, VP.blk, VP.ex, VP.and, VP.of, List.getD_cons_zero, List.getD_cons_succ]
            go_wp2_with (fail)
            refine done_mk ?_ rfl (Ext.refl _)
            rfl
          case oa3 =>
            intro x U hU
            simp only [depV, One, dstOf, readDst, asBool, VP.is, VP.any, VP.row, VP.ptr, VP.blk, VP.ex, VP.and, VP.of, List.getD_cons_zero, List.getD_cons_succ]
            intro d2
            simp only [d2]
            have q2 := (BS.out.ext hU).cell 2
            go_wp2_with (fail)
            refine done_mk ?_ rfl (Ext.refl _)
            rfl
          case oa4 =>
            intro x U hU
            simp only [depV, One, dstOf, readDst, asBool, VP.is, VP.any, VP.row, VP.ptr, VP.blk, VP.ex, VP.and, VP.of, List.getD_cons_zero, List.getD_cons_succ]
            intro d0
            intro d1
            intro d3
            simp only [d0, d1, d3]
            go_wp2_with ((refine (HDD.out U (B3.out.ext hU)).mono ?_; rintro e w8 ⟨rfl, hx8⟩))
            refine done_mk ?_ rfl (hx8)
            rfl
          case oa5 =>
            intro x U hU
            simp only [depV, One, dstOf, readDst, asBool, VP.is, VP.any, VP.row, VP.ptr, VP.blk, VP.ex, VP.and, VP.of, List.getD_cons_zero, List.getD_cons_succ]
            go_wp2_with (fail)
            refine done_mk ?_ rfl (Ext.refl _)
            rfl
          case oa6 =>
            intro x U hU
            simp only [depV, One, dstOf, readDst, asBool, VP.is, VP.any, VP.row, VP.ptr, VP.blk, VP.ex, VP.and, VP.of, List.getD_cons_zero, List.getD_cons_succ]
            go_wp2_with (fail)
            refine done_mk ?_ rfl (Ext.refl _)
            rfl
          case oa7 =>
            intro x U hU
            simp only [depV, One, dstOf, readDst, asBool, VP.is, VP.any, VP.row, VP.ptr, VP.blk, VP.ex, VP.and, VP.of, List.getD_cons_zero, List.getD_cons_succ]
            go_wp2_with (fail)
            refine done_mk ?_ rfl (Ext.refl _)
            rfl
          case oa8 =>
            intro x U hU
            simp only [depV, One, dstOf, readDst, asBool, VP.is, VP.any, VP.row, VP.ptr, VP.blk, VP.ex, VP.and, VP.of, List.getD_cons_zero, List.getD_cons_succ]
            intro d7
            simp only [d7]
            have q3 := (BS.out.ext hU).cell 3
            go_wp2_with (fail)
            refine done_mk ?_ rfl (Ext.refl _)
            rfl
          case oa9 =>
            intro x U hU
            simp only [depV, One, dstOf, readDst, asBool, VP.is, VP.any, VP.row, VP.ptr, VP.blk, VP.ex, VP.and, VP.of, List.getD_cons_zero, List.getD_cons_succ]
            intro d5
            intro d6
            intro d8
            simp only [d5, d6, d8]
            go_wp2_with ((refine (HDU.out U (B3.out.ext hU)).mono ?_; rintro e w8 ⟨rfl, hx8⟩))
            refine done_mk ?_ rfl (hx8)
            rfl
          case oa10 =>
            intro x U hU
            simp only [depV, One, dstOf, readDst, asBool, VP.is, VP.any, VP.row, VP.ptr, VP.blk, VP.ex, VP.and, VP.of, List.getD_cons_zero, List.getD_cons_succ]
            intro d4
            simp only [d4]
            go_wp2_with (fail)
            refine done_mk ?_ rfl (Ext.refl _)
            rfl
          case oa11 =>
            intro x U hU
            simp only [depV, One, dstOf, readDst, asBool, VP.is, VP.any, VP.row, VP.ptr, VP.blk, VP.ex, VP.and, VP.of, List.getD_cons_zero, List.getD_cons_succ]
            intro d9
            simp only [d9]
            go_wp2_with (fail)
            refine done_mk ?_ rfl (Ext.refl _)
            rfl
          case fina =>
            intro x U hU
            simp only [allV, depV, One, dstOf, readDst, asBool, VP.is, VP.any, VP.row, VP.ptr, VP.blk, VP.ex, VP.and, VP.of, List.getD_cons_zero, List.getD_cons_succ]
            intro d0
            intro d1
            intro d2
            intro d3
            intro d4
            intro d5
            intro d6
            intro d7
            intro d8
            intro d9
            intro d10
            intro d11
            simp only [d0, d1, d2, d3, d4, d5, d6, d7, d8, d9, d10, d11]
            clear d0 d1 d2 d3 d4 d5 d6 d7 d8 d9 d10 d11
            have hEU := hE7.trans hU
            have bs := BS.out.ext hU
            have c0 := HCZ.out _ (B3.out.ext hU)
            have s0 := (bs).cell 0
            have s1 := (bs).cell 1
            have s2 := (bs).cell 2
            have s3 := (bs).cell 3
            rcases HSZ with ⟨rfl, n12⟩ | rfl
            · obtain ⟨n1, n2⟩ := n12 hA0
              have w8a : IntKind.u8.wrap d = d := IntWalk.u8_in _ (by omega)
              have w8b : IntKind.u8.wrap d2 = d2 := IntWalk.u8_in _ (by omega)
              rw [if_pos rfl] at HIN0
              have HIN := Lib.hid HIN0
              clear HIN0 BS HCZ
              have hl1 : (pc pr).length = pr.length * 4 := by rw [pc_length]; first | omega | (simp only [List.length_append, List.length_cons, List.length_nil]; omega)
              have ho7 := own_ext ho ((hEU).alloc (.cells #[.int .u16 co, .int .u8 d, .int .u8 d2, .int .u32 kk] 43))
              have hy7 := ((hy3).trans hEU).alloc (.cells #[.int .u16 co, .int .u8 d, .int .u8 d2, .int .u32 kk] 43)
              have hrow : InM ((U).alloc (.cells #[.int .u16 co, .int .u8 d, .int .u8 d2, .int .u32 kk] 43)) (some ⟨(U).heap.size, 0, none⟩) (pc [⟨co, d, d2, kk⟩]) := InM.ofBlk (Blk.new _ _ _) rfl
              have hb1 : pr.length + 1 ≤ 1000000 := by omega
              have hb0 : 8 ≤ 10000 := by decide
              go_wp2_with (refine wpList_app rfl (.tmp 45) (.tmp 55) 33 rfl w3.heap.size 43 i0 _ 4 8 Try.underlying33 HI.out HZ0.out HZ1.out HZ2.out rfl (by decide) A1 (pr.length) c1 (pc pr) rfl ho7 _ 1 1 (pc [⟨co, d, d2, kk⟩]) rfl rfl hrow (pc_one _) hb1 hb0 hy7.size ?_; intro A8 c8 w8 ho8 hg8 hzz; clear hzz; have hx8 := hy7.app ho7 (Nat.le_refl _) hg8; rw [← pc_append] at ho8; clear hg8)
              clear ho7 hy7 hrow hl1 hb0 hb1
              go_roundw
              case rel => exact ⟨k + 1, A8, c8, pr ++ [⟨co, d, d2, kk⟩], by omega, by go_num, by rw [HSN.out, HPR.out, HIN.out], ⟨by rw [List.length_append]; rfl, by rw [List.length_append]; exact ho8⟩, hx8⟩
              case measure => simp [intOf]; omega
            · rw [if_neg (by decide)] at HIN0
              have HIN := Lib.hid HIN0
              clear HIN0 BS HCZ
              go_wp2_with (first
                | (have hl1 : (pc pr).length = pr.length * 4 := by rw [pc_length]; first | omega | (simp only [List.length_append, List.length_cons, List.length_nil]; omega)
                   have ho7 := own_ext ho ((hEU).alloc (.cells #[.int .u16 co, .int .u8 0, .int .u8 1, .int .u32 kk] 43))
                   have hy7 := ((hy3).trans hEU).alloc (.cells #[.int .u16 co, .int .u8 0, .int .u8 1, .int .u32 kk] 43)
                   have hrow : InM ((U).alloc (.cells #[.int .u16 co, .int .u8 0, .int .u8 1, .int .u32 kk] 43)) (some ⟨(U).heap.size, 0, none⟩) (pc [⟨co, 0, 1, kk⟩]) := InM.ofBlk (Blk.new _ _ _) rfl
                   have hb1 : pr.length + 1 ≤ 1000000 := by omega
                   have hb0 : 8 ≤ 10000 := by decide
                   refine wpList_app rfl (.tmp 57) (.tmp 63) 33 rfl w3.heap.size 43 i0 _ 4 8 Try.underlying33 HI.out HZ0.out HZ1.out HZ2.out rfl (by decide) A1 (pr.length) c1 (pc pr) rfl ho7 _ 1 1 (pc [⟨co, 0, 1, kk⟩]) rfl rfl hrow (pc_one _) hb1 hb0 hy7.size ?_
                   intro A8 c8 w8 ho8 hg8 hzz
                   have hx8 := hy7.app ho7 (Nat.le_refl _) hg8
                   rw [← pc_append] at ho8
                   clear hg8 hzz ho7 hy7 hrow hl1 hb0 hb1)
                | (have hl1 : (pc (pr++[⟨co, 0, 1, kk⟩])).length = (pr.length+1) * 4 := by rw [pc_length]; first | omega | (simp only [List.length_append, List.length_cons, List.length_nil]; omega)
                   have ho7 := own_ext ho8 (((Ext.refl w8)).alloc (.cells #[.int .u16 5, .int .u8 0, .int .u8 0, .int .u32 (d+1)] 43))
                   have hy7 := ((hx8).trans (Ext.refl w8)).alloc (.cells #[.int .u16 5, .int .u8 0, .int .u8 0, .int .u32 (d+1)] 43)
                   have hrow : InM ((w8).alloc (.cells #[.int .u16 5, .int .u8 0, .int .u8 0, .int .u32 (d+1)] 43)) (some ⟨(w8).heap.size, 0, none⟩) (pc [⟨5, 0, 0, d+1⟩]) := InM.ofBlk (Blk.new _ _ _) rfl
                   have hb1 : (pr.length+1) + 1 ≤ 1000000 := by omega
                   have hb0 : 8 ≤ 10000 := by decide
                   refine wpList_app rfl (.tmp 65) (.tmp 70) 33 rfl w3.heap.size 43 i0 _ 4 8 Try.underlying33 HI.out HZ0.out HZ1.out HZ2.out rfl (by decide) A8 ((pr.length+1)) c8 (pc (pr++[⟨co, 0, 1, kk⟩])) rfl ho7 _ 1 1 (pc [⟨5, 0, 0, d+1⟩]) rfl rfl hrow (pc_one _) hb1 hb0 hy7.size ?_
                   intro A9 c9 w9 ho9 hg8 hzz
                   have hx9 := hy7.app ho7 (Nat.le_refl _) hg8
                   rw [← pc_append] at ho9
                   clear hg8 hzz ho7 hy7 hrow hl1 hb0 hb1)
                | (have hl1 : (pc (pr++[⟨co, 0, 1, kk⟩]++[⟨5, 0, 0, d+1⟩])).length = (pr.length+2) * 4 := by rw [pc_length]; first | omega | (simp only [List.length_append, List.length_cons, List.length_nil]; omega)
                   have ho7 := own_ext ho9 (((Ext.refl w9)).alloc (.cells #[.int .u16 5, .int .u8 0, .int .u8 0, .int .u32 d2] 43))
                   have hy7 := ((hx9).trans (Ext.refl w9)).alloc (.cells #[.int .u16 5, .int .u8 0, .int .u8 0, .int .u32 d2] 43)
                   have hrow : InM ((w9).alloc (.cells #[.int .u16 5, .int .u8 0, .int .u8 0, .int .u32 d2] 43)) (some ⟨(w9).heap.size, 0, none⟩) (pc [⟨5, 0, 0, d2⟩]) := InM.ofBlk (Blk.new _ _ _) rfl
                   have hb1 : (pr.length+2) + 1 ≤ 1000000 := by omega
                   have hb0 : 8 ≤ 10000 := by decide
                   refine wpList_app rfl (.tmp 72) (.tmp 76) 33 rfl w3.heap.size 43 i0 _ 4 8 Try.underlying33 HI.out HZ0.out HZ1.out HZ2.out rfl (by decide) A9 ((pr.length+2)) c9 (pc (pr++[⟨co, 0, 1, kk⟩]++[⟨5, 0, 0, d+1⟩])) rfl ho7 _ 1 1 (pc [⟨5, 0, 0, d2⟩]) rfl rfl hrow (pc_one _) hb1 hb0 hy7.size ?_
                   intro A10 c10 w10 ho10 hg8 hzz
                   have hx10 := hy7.app ho7 (Nat.le_refl _) hg8
                   rw [← pc_append] at ho10
                   clear hg8 hzz ho7 hy7 hrow hl1 hb0 hb1)
                )
              go_roundw
              case rel => exact ⟨k + 1, A10, c10, pr ++ [⟨co, 0, 1, kk⟩] ++ [⟨5, 0, 0, d + 1⟩] ++ [⟨5, 0, 0, d2⟩], by omega, by go_num, by rw [HSN.out, HPR.out, HIN.out]; simp, ⟨by simp only [List.length_append]; rfl, by simp only [List.length_append]; exact ho10⟩, hx10⟩
              case measure => simp [intOf]; omega
    · obtain rfl : k = n := by omega
      have hnb : pr.length = nb := by rw [hpr, HLEN.out]
      have hin := own_inM ho
      rw [hpr] at hin
      rw [hnb]
      clear hnb hpr ho
      go_wp2_with fail
      go_ret2
      exact ⟨A1, c1, rfl, hin, hy⟩
end Go.Proofs.Ytjlhfmedaandeaa
