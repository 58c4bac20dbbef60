import Derived.Test.YtjlhfmedaandeaaOptTop2
import Derived.Test.YtjlhfmedaandeaaCode3
/- The law OptPasses, walked. -/
namespace Go.Proofs.Ytjlhfmedaandeaa
open Go.RowKit Go.ChangeShapes Go.WideShapes
set_option linter.unusedVariables false
set_option linter.unusedSimpArgs false

theorem sameT (A B : Option Addr) (n c m d : Nat) (ps : List Sy) (w : World) (hp : ps.length = n) (hq : ps.length = m) (hb : n ≤ 1000000) (hM : InM w A (sc ps)) (hN : InM w B (sc ps)) :
    Calls Try.prog 20 #[.slice A n c, .slice B m d] w fun e w' => e = .returned (.bool true) ∧ Ext w w' := by
  have h := refSameS A B n c m d ps ps w hp hq ⟨hb, by omega⟩ hM hN
  rwa [decide_eq_true rfl] at h
theorem blk_first {w : World} {g : Nat} {qs : List Sy} {more : List Value} (h : Blk w g 32 (sc qs ++ more).toArray) (h1 : 1 ≤ qs.length) : ∃ k : Int, w.cell? ⟨g, 1, none⟩ = some (.int .u32 k) := by
  have := (blk_sym (k := 0) (co := qs[0].code) (kk := qs[0].k) (th := qs[0].th) (el := qs[0].el) h h1 rfl).2.1
  exact ⟨_, by simpa using this⟩
set_option maxHeartbeats 4000000 in
set_option maxRecDepth 100000 in
theorem optPasses_walk (A : Option Addr) (n c : Nat) (ps : List Sy) (hp : ps.length = n) (hm : n ≤ c ∧ c ≤ maxLen) (hok : ∀ i ∈ ps, i.ok) {w : World} (hM : InM w A (sc ps)) (_ : World) :
    Calls Try.prog 7 #[.slice A n c] w fun e w' => e = .returned (.bool true) ∧ Ext w w' := by
  have HM := Lib.hid hM
  by_cases big : 300 < n
  · have d1 : (300 : Int) < n := by omega
    clear hp hm hok hM
    go_enter Try.func7, Try.ntmps7
    go_wp2_with fail
    go_ret
    exact ⟨rfl, Ext.refl _⟩
  have d1 : ¬ (300 : Int) < n := by omega
  have hn : n ≤ maxLen := by omega
  have HC := Lib.hid (fun W hW => refCopyS A n c ps W hp (by omega) hW)
  have HSS := Lib.hid (fun B c' W hW hV => sameT B A n c' n c ps W hp hp (by omega) hW hV)
  have HMay := Lib.hid (fun W hW => refMay25 A n c ps W hp hok hn hW)
  cases hmay : mayL ps with
  | false =>
    have H1 := Lib.hid (fun B c' W hW => topThreadNo B n c' ps W hp hok hn hW hmay)
    have H2 := Lib.hid (fun B c' W hW => topShareNo B n c' ps W hp hok hn hW hmay)
    have H3 := Lib.hid (fun B c' W hW => topDeadNo B n c' ps W hp hok hn hW hmay)
    have H4 := Lib.hid (fun B c' W hW => topOptNo B n c' ps W hp hok hn hW hmay)
    rw [hmay] at HMay
    clear hp hm hok hM hmay big hn
    go_enter Try.func7, Try.ntmps7
    go_wp2_with fail
    refine (HC.out _ HM.out).mono ?_
    rintro e w1 ⟨B, cB, rfl, ho1, hx1⟩
    have HB := Lib.hid (own_inM ho1)
    clear ho1
    go_wp2_with fail
    refine wp_loop_rounds 1 ?_
    rw [rounds_succ]
    go_wp2_with fail
    refine (H1.out _ _ _ HB.out).mono ?_
    rintro e w2 ⟨rfl, hx2⟩
    go_wp2_with fail
    refine (H2.out _ _ _ (HB.out.ext hx2)).mono ?_
    rintro e w3 ⟨rfl, hx3⟩
    go_wp2_with fail
    refine (H3.out _ _ _ (HB.out.ext (hx2.trans hx3))).mono ?_
    rintro e w4 ⟨rfl, hx4⟩
    go_wp2_with fail
    refine (H4.out _ _ _ (HB.out.ext (hx2.trans (hx3.trans hx4)))).mono ?_
    rintro e w5 ⟨rfl, hx5⟩
    have hx25 := hx2.trans (hx3.trans (hx4.trans hx5))
    go_wp2_with fail
    refine (HSS.out _ _ _ (HB.out.ext hx25) (HM.out.ext (hx1.trans hx25))).mono ?_
    rintro e w6 ⟨rfl, hx6⟩
    go_wp2_with fail
    refine (HMay.out _ (HM.out.ext (hx1.trans (hx25.trans hx6)))).mono ?_
    rintro e w7 ⟨rfl, hx7⟩
    go_wp2_with fail
    go_ret
    exact ⟨rfl, (hx1.trans (hx25.trans hx6)).trans hx7⟩
  | true =>
    have hY := mayL_of hmay
    have n1 : 1 ≤ n := by have := hY.l1; omega
    obtain ⟨bA, oA, rfl, hbA⟩ := sym_some hM (by omega)
    have hl3 := (dead_may hY).l1
    have hl4 := (opt_may hY).l1
    have hu3 := dead_le ps
    have hu4 := opt_le hY
    rw [hp] at hu3 hu4
    have HT := Lib.hid (fun g c' W hW => topThreadYes g 0 n c' ps W hp hok hn hW hmay)
    have HSH := Lib.hid (fun g c' W hW => topShareYes g 0 n c' ps W hp hok hn hW hmay)
    have HD := Lib.hid (fun g c' W hW => topDeadYes g 0 n c' ps W hp hok hn hW hmay)
    have HO := Lib.hid (fun g c' W hW => topOptYes g 0 n c' ps W hp hok hn hW hmay)
    have RT := Lib.hid (fun W hW => refThreadI bA oA n c ps W hp hY hW)
    have RS := Lib.hid (fun W hW => refShareI bA oA n c ps W hp hY hW)
    have RD := Lib.hid (fun W hW => refDeadI bA oA n c ps W hp hY hW)
    have RO := Lib.hid (fun W hW => refOptI bA oA n c ps W hp hY hW)
    have ST := Lib.hid (fun g c1 B c2 W h k => sameT (some ⟨g, 0, none⟩) B n c1 n c2 (threadL ps) W (by rw [thread_len hY]; exact hp) (by rw [thread_len hY]; exact hp) (by omega) h k)
    have S2 := Lib.hid (fun g c1 B c2 W h k => sameT (some ⟨g, 0, none⟩) B n c1 n c2 (shareL ps) W (by rw [share_len]; exact hp) (by rw [share_len]; exact hp) (by omega) h k)
    have S3 := Lib.hid (fun g c1 B c2 W h k => sameT (some ⟨g, 0, none⟩) B (deadL ps).length c1 (placeN ps n) c2 (deadL ps) W rfl (by rw [dead_len, hp]) (by omega) h k)
    have S4 := Lib.hid (fun g c1 B c2 W h k => sameT (some ⟨g, 0, none⟩) B (optL ps).length c1 (optL ps).length c2 (optL ps) W rfl rfl (by omega) h k)
    have HLT := Lib.hid (show 1 ≤ (threadL ps).length from by rw [thread_len hY]; omega)
    have HLS := Lib.hid (show 1 ≤ (shareL ps).length from by rw [share_len]; omega)
    have HL3 := Lib.hid hl3
    have HL4 := Lib.hid hl4
    rw [hmay] at HMay
    unfold TopR at HT HSH HD HO
    generalize threadL ps = tl at *
    generalize shareL ps = sl at *
    generalize deadL ps = dl at *
    generalize optL ps = ol at *
    have z3 : 0 < dl.length := by omega
    have z4 : 0 < ol.length := by omega
    have zn : 0 < n := by omega
    generalize dl.length = m3 at HD S3 z3 hu3
    generalize ol.length = m4 at HO RO S4 z4 hu4
    clear hp hm hok hM hmay big hn hY hbA hl3 hl4 hu3 hu4 n1
    go_enter Try.func7, Try.ntmps7
    go_wp2_with fail
    refine (HC.out _ HM.out).mono ?_
    rintro e w1 ⟨B, cB, rfl, ho1, hx1⟩
    obtain ⟨gm, mo, rfl, hbm, hgm⟩ := own_blk ho1 zn
    have HB := Lib.hid ((InM.ofBlk hbm rfl).prefix_)
    clear ho1 hbm hgm
    go_wp2_with fail
    go_loopw [4] (fun i wr => ∃ t : Nat, t ≤ 2 ∧ i = .int .i64 t ∧ Ext w1 wr) (fun i _ => 2 - (intOf i).toNat)
    case atStart => exact ⟨0, by omega, rfl, Ext.refl _⟩
    case round =>
      obtain ⟨w0, rfl⟩ : ∃ w0 : World, w0 = wr := ⟨_, rfl⟩
      obtain ⟨t, ht, rfl, hx⟩ := hrel
      by_cases hlt : t < 2
      · have hlt2 : (t : Int) < 2 := by omega
        go_wp2_with fail
        refine (HT.out _ _ _ (HB.out.ext hx)).mono ?_
        rintro e w2 ⟨g2, c2, m2, rfl, hb2, hg2, hx2⟩
        have h02 := hx.trans hx2
        go_wp2_with fail
        refine (HSH.out _ _ _ (HB.out.ext h02)).mono ?_
        rintro e w3 ⟨g3, c3, mm3, rfl, hb3, hg3, hx3⟩
        have h03 := h02.trans hx3
        go_wp2_with fail
        refine (HD.out _ _ _ (HB.out.ext h03)).mono ?_
        rintro e w4 ⟨g4, c4, mm4, rfl, hb4, hg4, hx4⟩
        have h04 := h03.trans hx4
        go_wp2_with fail
        refine (HO.out _ _ _ (HB.out.ext h04)).mono ?_
        rintro e w5 ⟨g5, c5, mm5, rfl, hb5, hg5, hx5⟩
        have h05 := h04.trans hx5
        have L2 := Lib.hid hb2.lt
        have L3 := Lib.hid hb3.lt
        have L4 := Lib.hid hb4.lt
        have B2 := Lib.hid (hb2.ext (hx3.trans (hx4.trans hx5)))
        have B3 := Lib.hid (hb3.ext (hx4.trans hx5))
        have B4 := Lib.hid (hb4.ext hx5)
        have B5 := Lib.hid hb5
        have G2 := Lib.hid (show w1.heap.size ≤ g2 from by have := hx.size; omega)
        have G3 := Lib.hid (show w1.heap.size ≤ g3 from by have := h02.size; omega)
        have G4 := Lib.hid (show w1.heap.size ≤ g4 from by have := h03.size; omega)
        have G5 := Lib.hid (show w1.heap.size ≤ g5 from by have := h04.size; omega)
        have N23 := Lib.hid (show g2 ≠ g3 from by have := L2.out; omega)
        have N24 := Lib.hid (show g2 ≠ g4 from by have := L2.out; have := hx3.size; omega)
        have N25 := Lib.hid (show g2 ≠ g5 from by have := L2.out; have := hx3.size; have := hx4.size; omega)
        have N34 := Lib.hid (show g3 ≠ g4 from by have := L3.out; omega)
        have N35 := Lib.hid (show g3 ≠ g5 from by have := L3.out; have := hx4.size; omega)
        have N45 := Lib.hid (show g4 ≠ g5 from by have := L4.out; omega)
        clear hb2 hb3 hb4 hb5 hg2 hg3 hg4 hg5 hx2 hx3 hx4 hx5 h02 h03 h04 hx
        go_wp2_with fail
        refine (HSS.out _ _ _ (HB.out.ext h05) (HM.out.ext (hx1.trans h05))).mono ?_
        rintro e w6 ⟨rfl, hx6⟩
        go_wp2_with fail
        refine (HMay.out _ (HM.out.ext (hx1.trans (h05.trans hx6)))).mono ?_
        rintro e w7 ⟨rfl, hx7⟩
        have h57 := hx6.trans hx7
        go_wp2_with fail
        refine (RT.out _ (HM.out.ext (hx1.trans (h05.trans h57)))).mono ?_
        rintro e w8 ⟨q8, k8, o8, rfl, rb8, -, hx8⟩
        have h58 := h57.trans hx8
        go_wp2_with fail
        refine (ST.out _ _ _ _ _ (InM.ofBlk (B2.out.ext h58) rfl).prefix_ (InM.ofBlk rb8 rfl).prefix_).mono ?_
        rintro e w9 ⟨rfl, hx9⟩
        have h59 := h58.trans hx9
        go_wp2_with fail
        refine (RS.out _ (HM.out.ext (hx1.trans (h05.trans h59)))).mono ?_
        rintro e w10 ⟨q10, k10, o10, rfl, rb10, -, hx10⟩
        have h510 := h59.trans hx10
        go_wp2_with fail
        refine (S2.out _ _ _ _ _ (InM.ofBlk (B3.out.ext h510) rfl).prefix_ (InM.ofBlk rb10 rfl).prefix_).mono ?_
        rintro e w11 ⟨rfl, hx11⟩
        have h511 := h510.trans hx11
        go_wp2_with fail
        refine (RD.out _ (HM.out.ext (hx1.trans (h05.trans h511)))).mono ?_
        rintro e w12 ⟨q12, k12, rfl, ro12, hx12⟩
        have h512 := h511.trans hx12
        go_wp2_with fail
        refine (S3.out _ _ _ _ _ (InM.ofBlk (B4.out.ext h512) rfl).prefix_ (own_inM ro12)).mono ?_
        rintro e w13 ⟨rfl, hx13⟩
        have h513 := h512.trans hx13
        go_wp2_with fail
        refine (RO.out _ (HM.out.ext (hx1.trans (h05.trans h513)))).mono ?_
        rintro e w14 ⟨q14, k14, rfl, rM14, hx14⟩
        have h514 := h513.trans hx14
        go_wp2_with fail
        refine (S4.out _ _ _ _ _ (InM.ofBlk (B5.out.ext h514) rfl).prefix_ rM14).mono ?_
        rintro e w15 ⟨rfl, hx15⟩
        have h515 := h514.trans hx15
        have b2 := B2.out.ext h515
        have b3 := B3.out.ext h515
        have b4 := B4.out.ext h515
        have b5 := B5.out.ext h515
        obtain ⟨x2, y2⟩ := blk_first b2 HLT.out
        obtain ⟨x3, y3⟩ := blk_first b3 HLS.out
        obtain ⟨x4, y4⟩ := blk_first b4 HL3.out
        obtain ⟨x5, y5⟩ := blk_first b5 HL4.out
        have f2 := b2.frozen 1
        have y3v := fun v => ((b3.far (p := ⟨g2, 1, none⟩) (Ne.symm N23.out) v).cell 1).trans ((b3.cell 1).symm.trans y3)
        have f3v := fun v => (b3.far (p := ⟨g2, 1, none⟩) (Ne.symm N23.out) v).frozen 1
        have y4v := fun v v' => (((b4.far (p := ⟨g2, 1, none⟩) (Ne.symm N24.out) v).far (p := ⟨g3, 1, none⟩) (Ne.symm N34.out) v').cell 1).trans ((b4.cell 1).symm.trans y4)
        have f4v := fun v v' => ((b4.far (p := ⟨g2, 1, none⟩) (Ne.symm N24.out) v).far (p := ⟨g3, 1, none⟩) (Ne.symm N34.out) v').frozen 1
        have y5v := fun v v' v'' => ((((b5.far (p := ⟨g2, 1, none⟩) (Ne.symm N25.out) v).far (p := ⟨g3, 1, none⟩) (Ne.symm N35.out) v').far (p := ⟨g4, 1, none⟩) (Ne.symm N45.out) v'').cell 1).trans ((b5.cell 1).symm.trans y5)
        have f5v := fun v v' v'' => (((b5.far (p := ⟨g2, 1, none⟩) (Ne.symm N25.out) v).far (p := ⟨g3, 1, none⟩) (Ne.symm N35.out) v').far (p := ⟨g4, 1, none⟩) (Ne.symm N45.out) v'').frozen 1
        have hE := Lib.hid (fun v2 v3 v4 v5 => ((((h05.trans h515).set (p := ⟨g2, 1, none⟩) G2.out v2).set (p := ⟨g3, 1, none⟩) G3.out v3).set (p := ⟨g4, 1, none⟩) G4.out v4).set (p := ⟨g5, 1, none⟩) G5.out v5)
        clear y3 y4 y5 b2 b3 b4 b5
        go_wp2_with fail
        go_roundw
        case rel => exact ⟨t + 1, by omega, by go_num, hE.out _ _ _ _⟩
        case measure => simp [intOf]; omega
      · obtain rfl : t = 2 := by omega
        go_wp2_with fail
        go_ret
        exact ⟨rfl, hx1.trans hx⟩
end Go.Proofs.Ytjlhfmedaandeaa
