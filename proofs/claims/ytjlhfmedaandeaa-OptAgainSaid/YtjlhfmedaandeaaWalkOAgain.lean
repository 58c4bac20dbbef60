import Derived.Test.YtjlhfmedaandeaaAwake26
import Derived.Test.YtjlhfmedaandeaaWalkOpt1
/- code.Same; the law OptAgain, walked. -/
namespace Go.Proofs.Ytjlhfmedaandeaa
open Go.RowKit Go.ChangeShapes Go.WideShapes
set_option linter.unusedVariables false
set_option linter.unusedSimpArgs false

set_option maxRecDepth 100000 in
theorem equalS (A B : Option Addr) (n c d : Nat) (ps : List Sy) (w : World) (hp : ps.length = n) (hb : n ≤ 1000000) (hM : InM w A (sc ps)) (hN : InM w B (sc ps)) :
    Calls Try.prog 56 #[.slice A n c, .slice B n d] w fun e w' => e = .returned (.bool true) ∧ Ext w w' := by
  have hR := Lib.hid hp
  clear hp
  have d1 : ((n : Int) != n) = false := by simp
  go_enter Try.func56, Try.ntmps56
  go_wp2
  go_loopw [13] (fun i wr => ∃ k : Nat, k ≤ n ∧ i = .int .i64 k ∧ Ext w wr) (fun i _ => n - (intOf i).toNat)
  case atStart => exact ⟨0, by omega, rfl, Ext.refl _⟩
  case round =>
    obtain ⟨k, hk, rfl, hx⟩ := hrel
    by_cases hlt : k < n
    · have hkp : k < ps.length := by rw [hR.out]; exact hlt
      obtain ⟨b1, o1, rfl, _⟩ := sym_some hM (by omega)
      obtain ⟨b2, o2, rfl, _⟩ := sym_some hN (by omega)
      have c1 := Lib.hid (fun (W : World) (h : Ext w W) => sym_cells (hM.ext h) hkp)
      have c2 := Lib.hid (fun (W : World) (h : Ext w W) => sym_cells (hN.ext h) hkp)
      have hne : Hid (∀ W : World, (binOp .neq 32 ps[k].val ps[k].val).run Try.prog W = .ok (.bool false) W) := Lib.hid (fun W => by
        have h := sym_neq ps[k] ps[k] W
        rw [decide_eq_true rfl] at h
        exact h)
      generalize ps[k] = P at *
      have b3 : (0 : Int) ≤ k := by omega
      have b4 : (k : Int) < n := by omega
      have b5 : (k : Int) ≤ 1000000 := by omega
      go_wp2_with fail
      refine wp_region_mono rfl [.is ?va0, .is ?va1, .is ?va2, .is P.val, .is ?va4, .is ?va5, .is ?va6, .is P.val, .is (.bool false)] (by kernel_rfl) (by kernel_rfl) ?Aa ?hAa ⟨?oa0, ?oa1, ?oa2, ?oa3, ?oa4, ?oa5, ?oa6, ?oa7, ?oa8, trivial⟩ ?fina
      case hAa => (intro x; simp only [fillOps, Act.put, List.setIfInBounds_toArray, List.set_cons_zero, List.set_cons_succ, Nat.reduceAdd]; rfl)
      case oa0 =>
        intro x U hU
        simp only [depV, One, dstOf, readDst, asBool, VP.is, VP.any, VP.row, VP.ptr, VP.blk, VP.ex, VP.and, VP.of, List.getD_cons_zero, List.getD_cons_succ]
        go_wp2_with (fail)
        refine done_mk ?_ rfl (Ext.refl _)
        rfl
      case oa1 =>
        intro x U hU
        simp only [depV, One, dstOf, readDst, asBool, VP.is, VP.any, VP.row, VP.ptr, VP.blk, VP.ex, VP.and, VP.of, List.getD_cons_zero, List.getD_cons_succ]
        go_wp2_with (fail)
        refine done_mk ?_ rfl (Ext.refl _)
        rfl
      case oa2 =>
        intro x U hU
        simp only [depV, One, dstOf, readDst, asBool, VP.is, VP.any, VP.row, VP.ptr, VP.blk, VP.ex, VP.and, VP.of, List.getD_cons_zero, List.getD_cons_succ]
        intro d0
        intro d1
        simp only [d0, d1]
        go_wp2_with (fail)
        refine done_mk ?_ rfl (Ext.refl _)
        rfl
      case oa3 =>
        intro x U hU
        simp only [depV, One, dstOf, readDst, asBool, VP.is, VP.any, VP.row, VP.ptr, VP.blk, VP.ex, VP.and, VP.of, List.getD_cons_zero, List.getD_cons_succ]
        intro d2
        simp only [d2]
        obtain ⟨h0, h1, h2, h3⟩ := c1.out U (hx.trans hU)
        go_wp2_with (fail)
        refine done_mk ?_ rfl (Ext.refl _)
        rfl
      case oa4 =>
        intro x U hU
        simp only [depV, One, dstOf, readDst, asBool, VP.is, VP.any, VP.row, VP.ptr, VP.blk, VP.ex, VP.and, VP.of, List.getD_cons_zero, List.getD_cons_succ]
        go_wp2_with (fail)
        refine done_mk ?_ rfl (Ext.refl _)
        rfl
      case oa5 =>
        intro x U hU
        simp only [depV, One, dstOf, readDst, asBool, VP.is, VP.any, VP.row, VP.ptr, VP.blk, VP.ex, VP.and, VP.of, List.getD_cons_zero, List.getD_cons_succ]
        go_wp2_with (fail)
        refine done_mk ?_ rfl (Ext.refl _)
        rfl
      case oa6 =>
        intro x U hU
        simp only [depV, One, dstOf, readDst, asBool, VP.is, VP.any, VP.row, VP.ptr, VP.blk, VP.ex, VP.and, VP.of, List.getD_cons_zero, List.getD_cons_succ]
        intro d4
        intro d5
        simp only [d4, d5]
        go_wp2_with (fail)
        refine done_mk ?_ rfl (Ext.refl _)
        rfl
      case oa7 =>
        intro x U hU
        simp only [depV, One, dstOf, readDst, asBool, VP.is, VP.any, VP.row, VP.ptr, VP.blk, VP.ex, VP.and, VP.of, List.getD_cons_zero, List.getD_cons_succ]
        intro d6
        simp only [d6]
        obtain ⟨h0, h1, h2, h3⟩ := c2.out U (hx.trans hU)
        go_wp2_with (fail)
        refine done_mk ?_ rfl (Ext.refl _)
        rfl
      case oa8 =>
        intro x U hU
        simp only [depV, One, dstOf, readDst, asBool, VP.is, VP.any, VP.row, VP.ptr, VP.blk, VP.ex, VP.and, VP.of, List.getD_cons_zero, List.getD_cons_succ]
        intro d3
        intro d7
        simp only [d3, d7]
        have hne := hne.out U
        have hg := fun a b => sym_guard_neq P P a b U
        go_wp2_with (fail)
        refine done_mk ?_ rfl (Ext.refl _)
        rfl
      case fina =>
        intro x U hU
        simp only [allV, depV, One, dstOf, readDst, asBool, VP.is, VP.any, VP.row, VP.ptr, VP.blk, VP.ex, VP.and, VP.of, List.getD_cons_zero, List.getD_cons_succ]
        intro d0
        intro d1
        intro d2
        intro d3
        intro d4
        intro d5
        intro d6
        intro d7
        intro d8
        simp only [d0, d1, d2, d3, d4, d5, d6, d7, d8]
        clear d0 d1 d2 d3 d4 d5 d6 d7 d8
        go_wp2
        go_roundw
        case rel => exact ⟨k + 1, by omega, by go_num, hx.trans hU⟩
        case measure => simp [intOf]; omega
    · obtain rfl : k = n := by omega
      go_wp2
      go_ret
      exact ⟨rfl, hx⟩
set_option maxRecDepth 100000 in
theorem codeSame (A B : Option Addr) (n c d : Nat) (ps : List Sy) (w : World) (hp : ps.length = n) (hb : n ≤ 1000000) (hM : InM w A (sc ps)) (hN : InM w B (sc ps)) :
    Calls Try.prog 34 #[.slice A n c, .slice B n d] w fun e w' => e = .returned (.bool true) ∧ Ext w w' := by
  have H := Lib.hid (equalS A B n c d ps w hp hb hM hN)
  clear hp hM hN
  go_enter Try.func34, Try.ntmps34
  go_wp2_with fail
  refine (H.out).mono ?_
  rintro e w1 ⟨rfl, hx1⟩
  go_wp2
  go_ret
  exact ⟨rfl, hx1⟩
set_option maxHeartbeats 4000000 in
set_option maxRecDepth 100000 in
theorem optAgain_walk (A : Option Addr) (n c : Nat) (ps : List Sy) (hp : ps.length = n) (hm : n ≤ c ∧ c ≤ maxLen) (hok : ∀ i ∈ ps, i.ok) {w : World} (hM : InM w A (sc ps)) (_ : World) :
    Calls Try.prog 8 #[.slice A n c] w fun e w' => e = .returned (.bool true) ∧ Ext w w' := by
  have HAW := Lib.hid (fun W => awake26 W)
  have HM := Lib.hid hM
  by_cases big : 300 < n
  · have d1 : (300 : Int) < n := by omega
    clear hp hm hok hM
    go_enter Try.func8, Try.ntmps8
    go_wp2_with fail
    refine (HAW.out _).mono ?_
    rintro e w1 ⟨rfl, hx⟩
    go_wp2_with fail
    go_ret
    exact ⟨rfl, hx⟩
  have d1 : ¬ (300 : Int) < n := by omega
  have hn : n ≤ maxLen := by omega
  have HMay := Lib.hid (fun W hW => codeMay A n c ps W hp hok hn hW)
  cases hmay : mayL ps with
  | false =>
    rw [hmay] at HMay
    clear hp hm hok hM hn big hmay
    go_enter Try.func8, Try.ntmps8
    go_wp2_with fail
    refine (HAW.out _).mono ?_
    rintro e w1 ⟨rfl, hx⟩
    go_wp2_with fail
    refine (HMay.out _ (HM.out.ext hx)).mono ?_
    rintro e w3 ⟨rfl, hx3⟩
    go_wp2_with fail
    go_ret
    exact ⟨rfl, hx.trans hx3⟩
  | true =>
    have hY := mayL_of hmay
    have n1 : 1 ≤ n := by have := hY.l1; omega
    obtain ⟨bA, oA, rfl, hbA⟩ := sym_some hM (by omega)
    have hu3 := dead_le ps
    have hu4 := opt_le hY
    have h41 := (opt_may hY).l1
    rw [hp] at hu3 hu4
    have hts := thr_ok hY (thread_thr hY) hok
    have hso := share_sy hY hok
    have hsY := share_may hY
    have hto := thr_ok hsY (thread_thr hsY) hso
    have hoo := dead_ok (thread_may hsY) hto
    have lt : (threadL ps).length = n := by rw [thread_len hY]; exact hp
    have ls : (shareL ps).length = n := by rw [share_len]; exact hp
    have HT := Lib.hid (fun W hW => topThreadYes bA oA n c ps W hp hok hn hW hmay)
    have HSH := Lib.hid (fun W hW => topShareYes bA oA n c ps W hp hok hn hW hmay)
    have HD := Lib.hid (fun W hW => topDeadYes bA oA n c ps W hp hok hn hW hmay)
    have HO := Lib.hid (fun W hW => topOptYes bA oA n c ps W hp hok hn hW hmay)
    have HT2 := Lib.hid (fun g c W hW => (by
      have h := topThreadYes g 0 n c (threadL ps) W lt hts hn hW (mayL_mk (thread_may hY))
      rw [thread_twice hY] at h
      exact h))
    have HS2 := Lib.hid (fun g c W hW => (by
      have h := topShareYes g 0 n c (shareL ps) W ls hso hn hW (mayL_mk hsY)
      rw [share_twice hY] at h
      exact h))
    have HD2 := Lib.hid (fun g c W hW => (by
      have h := topDeadYes g 0 (deadL ps).length c (deadL ps) W rfl (dead_ok hY hok) (by unfold maxLen; omega) hW (mayL_mk (dead_may hY))
      rw [dead_twice hY] at h
      exact h))
    have HAL := Lib.hid (fun g c W hW => optTopYes (some ⟨g, 0, none⟩) (optL ps).length c (optL ps) W rfl hoo (by unfold maxLen; omega) hW (mayL_mk (opt_may hY)))
    have C1 := Lib.hid (fun g c g2 c2 W hW hV => codeSame (some ⟨g, 0, none⟩) (some ⟨g2, 0, none⟩) n c c2 (threadL ps) W lt (by omega) hW hV)
    have C2 := Lib.hid (fun g c g2 c2 W hW hV => codeSame (some ⟨g, 0, none⟩) (some ⟨g2, 0, none⟩) n c c2 (shareL ps) W ls (by omega) hW hV)
    have C3 := Lib.hid (fun g c g2 c2 W hW hV => codeSame (some ⟨g, 0, none⟩) (some ⟨g2, 0, none⟩) (deadL ps).length c c2 (deadL ps) W rfl (by omega) hW hV)
    have HCL := Lib.hid (opt_clean hY)
    have HKD := Lib.hid (fun j (hj : j < (optL ps).length) => kind_of ((opt_may hY).one j hj))
    have HLV := Lib.hid (fun j (hj : j < (optL ps).length) => (aliveT_get (opt_may hY) j hj).trans (by rw [(opt_clean hY j hj).1]))
    rw [hmay] at HMay
    unfold TopR at HT HSH HD HO HT2 HS2 HD2
    clear hts hso hsY hto hoo lt ls hY
    generalize threadL ps = tl at *
    generalize shareL ps = sl at *
    generalize deadL ps = dl at *
    generalize optL ps = ol at *
    generalize dl.length = m3 at HD HD2 C3
    have HOL := Lib.hid (rfl : ol.length = ol.length)
    obtain ⟨m4, hm4⟩ : ∃ m, ol.length = m := ⟨_, rfl⟩
    rw [hm4] at HO HAL HKD HLV HCL hu4 h41
    have HM4 := Lib.hid hm4
    have f6 : ((m4 : Int) != m4) = false := by simp
    have f7 : ((m4 : Int) == 0) = false := by simp; omega
    have f8 : (m4 : Int) ≤ 300 := by omega
    clear hp hm hok hM hmay big hn hbA hu3 n1 hm4 HOL
    go_enter Try.func8, Try.ntmps8
    go_wp2_with fail
    refine (HAW.out _).mono ?_
    rintro e w1 ⟨rfl, hx⟩
    go_wp2_with fail
    refine (HMay.out _ (HM.out.ext hx)).mono ?_
    rintro e w2 ⟨rfl, hx2⟩
    have hE2 := hx.trans hx2
    go_wp2_with fail
    refine (HT.out _ (HM.out.ext hE2)).mono ?_
    rintro e w3 ⟨g3, c3, m3', rfl, hb3, -, hx3⟩
    have hE3 := hE2.trans hx3
    go_wp2_with fail
    refine (HSH.out _ (HM.out.ext hE3)).mono ?_
    rintro e w4 ⟨g4, c4, m4', rfl, hb4, -, hx4⟩
    have hE4 := hE3.trans hx4
    go_wp2_with fail
    refine (HD.out _ (HM.out.ext hE4)).mono ?_
    rintro e w5 ⟨g5, c5, m5', rfl, hb5, -, hx5⟩
    have hE5 := hE4.trans hx5
    have I3 := Lib.hid (InM.ofBlk (hb3.ext (hx4.trans hx5)) rfl).prefix_
    have I4 := Lib.hid (InM.ofBlk (hb4.ext hx5) rfl).prefix_
    have I5 := Lib.hid (InM.ofBlk hb5 rfl).prefix_
    clear hb3 hb4 hb5
    go_wp2_with fail
    refine (HT2.out _ _ _ I3.out).mono ?_
    rintro e w6 ⟨g6, c6, m6', rfl, hb6, -, hx6⟩
    have hE6 := hE5.trans hx6
    go_wp2_with fail
    refine (HS2.out _ _ _ (I4.out.ext hx6)).mono ?_
    rintro e w7 ⟨g7, c7, m7', rfl, hb7, -, hx7⟩
    have hE7 := hE6.trans hx7
    go_wp2_with fail
    refine (HD2.out _ _ _ (I5.out.ext (hx6.trans hx7))).mono ?_
    rintro e w8 ⟨g8, c8, m8', rfl, hb8, -, hx8⟩
    have hE8 := hE7.trans hx8
    have X58 := hx6.trans (hx7.trans hx8)
    have I6 := Lib.hid (InM.ofBlk (hb6.ext (hx7.trans hx8)) rfl).prefix_
    have I7 := Lib.hid (InM.ofBlk (hb7.ext hx8) rfl).prefix_
    have I8 := Lib.hid (InM.ofBlk hb8 rfl).prefix_
    clear hb6 hb7 hb8
    go_wp2_with fail
    refine (C1.out _ _ _ _ _ (I3.out.ext X58) I6.out).mono ?_
    rintro e w9 ⟨rfl, hx9⟩
    go_wp2_with fail
    refine (C2.out _ _ _ _ _ (I4.out.ext (X58.trans hx9)) (I7.out.ext hx9)).mono ?_
    rintro e w10 ⟨rfl, hx10⟩
    go_wp2_with fail
    refine (C3.out _ _ _ _ _ (I5.out.ext (X58.trans (hx9.trans hx10))) (I8.out.ext (hx9.trans hx10))).mono ?_
    rintro e w11 ⟨rfl, hx11⟩
    have hE11 := hE8.trans (hx9.trans (hx10.trans hx11))
    go_wp2_with fail
    refine (HO.out _ (HM.out.ext hE11)).mono ?_
    rintro e w12 ⟨g12, c12, m12', rfl, hb12, -, hx12⟩
    have I12 := Lib.hid hb12
    go_wp2_with fail
    refine (HAL.out _ _ _ (InM.ofBlk hb12 rfl).prefix_).mono ?_
    rintro e w13 ⟨⟨gl, rfl, hbl⟩, hx13⟩
    have hE13 := Lib.hid (hE11.trans (hx12.trans hx13))
    have B12 := Lib.hid (hb12.ext hx13)
    have BL := Lib.hid hbl
    clear hb12 hbl hx2 hx3 hx4 hx5 hx6 hx7 hx8 hx9 hx10 hx11 hx12 hx13 hE2 hE3 hE4 hE5 hE6 hE7 hE8 hE11 X58 hx I12
    go_wp2_with fail
    go_loopw [19] (fun it W => ∃ k : Nat, k ≤ m4 ∧ it = .int .i64 k ∧ Ext w13 W) (fun it _ => m4 - (intOf it).toNat)
    case atStart => exact ⟨0, Nat.zero_le _, rfl, Ext.refl _⟩
    case round =>
      obtain ⟨k, hk, rfl, hy⟩ := hrel
      by_cases hlt : k < m4
      · have hkp : k < ol.length := by rw [HM4.out]; exact hlt
        have hK := HKD.out k hlt
        have cb := Lib.hid (fun W' (h : Ext w13 W') => blk_bool (BL.out.ext h) k (HLV.out k hlt))
        have hcl := (HCL.out k hlt).2
        have hgd : ol.getD k zeroS = ol[k] := by simp [List.getD_eq_getElem?_getD, hkp]
        have PC := Lib.hid (fun W' (h : Ext w13 W') => blk_sym (co := ol[k].code) (kk := ol[k].k) (th := ol[k].th) (el := ol[k].el) (B12.out.ext h) hkp rfl)
        have PT := Lib.hid (fun (t : Nat) (ht : t < m4) W' (h : Ext w13 W') => (blk_sym (k := t) (co := (ol.getD t zeroS).code) (kk := (ol.getD t zeroS).k) (th := (ol.getD t zeroS).th) (el := (ol.getD t zeroS).el) (B12.out.ext h) (by rw [HM4.out]; exact ht) (by
          have : t < ol.length := by rw [HM4.out]; exact ht
          simp [List.getD_eq_getElem?_getD, this])).1)
        have k1 : (0 : Int) ≤ k := by omega
        have k2 : (k : Int) < m4 := by omega
        have hcls := kind_cls hK
        rw [hgd] at hK hcls hcl
        have HCT := Lib.hid hcl
        clear hcl hgd
        generalize ol[k] = s at *
        clear hkp
        obtain ⟨co, kk, th, el⟩ := s
        dsimp only at hcls PC
        have OF := Lib.hid (fun W' => of_any co W')
        obtain ⟨q0, q1, q2, q3⟩ := PC.out _ hy
        by_cases h5 : co = 5
        · subst h5
          obtain ⟨⟨t, rfl, ht⟩, rfl⟩ : (∃ t : Nat, th = t ∧ t < m4) ∧ el = 0 := by
            rcases hK with ⟨q, _, _, _⟩ | ⟨q, _, _⟩ | ⟨q, _, _⟩ | ⟨q, _, q3, q1⟩ | ⟨q, q1, q2⟩
            · dsimp only at q; omega
            · dsimp only at q; omega
            · dsimp only at q; omega
            · dsimp only at q1 q3; exact ⟨⟨th.toNat, by omega, by omega⟩, q3⟩
            · dsimp only at q; omega
          have e1 : (byE 5).1.cls = 4 := by kernel_rfl
          rw [e1] at OF
          have hct := HCT.out t (ja_tgt (s := ⟨5, kk, (t : Int), 0⟩) rfl)
          have PT1 := Lib.hid (PT.out t ht)
          generalize (ol.getD t zeroS).code = tc at *
          have e2 : (tc == 5) = false := by simpa using hct
          have t0 : (0 : Int) ≤ t := by omega
          have t1 : (t : Int) < m4 := by omega
          have t2 : decide ((m4 : Int) ≤ t) = false := by simp; omega
          have t3 : decide ((m4 : Int) ≤ 0) = false := by simp; omega
          clear hK hcls e1 hct HCT PT
          go_wp2_with fail
          refine (OF.out _).mono ?_
          rintro e w14 ⟨rfl, hx14⟩
          have hy14 := hy.trans hx14
          clear q0 q1 q2 q3
          obtain ⟨q0, q1, q2, q3⟩ := PC.out _ hy14
          have cb1 := cb.out _ hy14
          have ct1 := PT1.out _ hy14
          go_wp2_with fail
          go_roundw
          case rel => exact ⟨k + 1, by omega, by go_num, hy14⟩
          case measure => simp [intOf]; omega
        · by_cases hA : asksC co = true
          · have hq := asks_code.1 hA
            obtain ⟨⟨t, rfl, ht⟩, ⟨u, rfl, hu⟩⟩ : (∃ t : Nat, th = t ∧ t < m4) ∧ (∃ u : Nat, el = u ∧ u < m4) := by
              rcases hK with ⟨q, _, _, _⟩ | ⟨q, _, _⟩ | ⟨q, _, _⟩ | ⟨q, _, _, q1⟩ | ⟨q, q1, q2⟩
              · dsimp only at q; omega
              · dsimp only at q; omega
              · dsimp only at q; omega
              · dsimp only at q; omega
              · dsimp only at q1 q2; exact ⟨⟨th.toNat, by omega, by omega⟩, ⟨el.toNat, by omega, by omega⟩⟩
            have e1 : (byE co).1.cls = 4 := by rw [hcls, if_neg (by omega), if_neg (by omega), if_neg (by omega)]
            rw [e1] at OF
            have hct := HCT.out t (as_tgt (s := ⟨co, kk, (t : Int), (u : Int)⟩) hA).1
            have hcu := HCT.out u (as_tgt (s := ⟨co, kk, (t : Int), (u : Int)⟩) hA).2
            have PT1 := Lib.hid (PT.out t ht)
            have PU1 := Lib.hid (PT.out u hu)
            generalize (ol.getD t zeroS).code = tc at *
            generalize (ol.getD u zeroS).code = uc at *
            have e2 : (tc == 5) = false := by simpa using hct
            have e3 : (uc == 5) = false := by simpa using hcu
            have e5 : (co != 5) = true := by simpa using h5
            have t0 : (0 : Int) ≤ t := by omega
            have t1 : (t : Int) < m4 := by omega
            have t2 : decide ((m4 : Int) ≤ t) = false := by simp; omega
            have u0 : (0 : Int) ≤ u := by omega
            have u1 : (u : Int) < m4 := by omega
            have u2 : decide ((m4 : Int) ≤ u) = false := by simp; omega
            clear hK hcls e1 hct hcu HCT PT hA hq h5
            go_wp2_with fail
            refine (OF.out _).mono ?_
            rintro e w14 ⟨rfl, hx14⟩
            have hy14 := hy.trans hx14
            clear q0 q1 q2 q3
            obtain ⟨q0, q1, q2, q3⟩ := PC.out _ hy14
            have cb1 := cb.out _ hy14
            have ct1 := PT1.out _ hy14
            have cu1 := PU1.out _ hy14
            go_wp2_with fail
            go_roundw
            case rel => exact ⟨k + 1, by omega, by go_num, hy14⟩
            case measure => simp [intOf]; omega
          · have hno : co = 32 ∨ co = 84 ∨ co = 6 := by
              rcases hK with ⟨q, _, _, _⟩ | ⟨q, _, _⟩ | ⟨q, _, _⟩ | ⟨q, _, _, q1⟩ | ⟨q, q1, q2⟩
              · exact .inl q
              · exact .inr (.inl q)
              · exact .inr (.inr q)
              · exact absurd q h5
              · exact absurd (asks_code.2 q) hA
            obtain ⟨q, hq, hq4⟩ : ∃ q : Int, (byE co).1.cls = q ∧ (q == 4) = false := by
              rcases hno with h | h | h
              · exact ⟨1, by rw [h]; kernel_rfl, rfl⟩
              · exact ⟨3, by rw [h]; kernel_rfl, rfl⟩
              · exact ⟨5, by rw [h]; kernel_rfl, rfl⟩
            rw [hq] at OF
            clear hK hcls HCT PT hA h5 hno hq
            go_wp2_with fail
            refine (OF.out _).mono ?_
            rintro e w14 ⟨rfl, hx14⟩
            have hy14 := hy.trans hx14
            have cb1 := cb.out _ hy14
            clear q0 q1 q2 q3
            go_wp2_with fail
            go_roundw
            case rel => exact ⟨k + 1, by omega, by go_num, hy14⟩
            case measure => simp [intOf]; omega
      · obtain rfl : k = m4 := by omega
        go_wp2_with fail
        go_ret
        exact ⟨rfl, hE13.out.trans hy⟩
end Go.Proofs.Ytjlhfmedaandeaa
