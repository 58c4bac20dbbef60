import Derived.Test.YtjlhfmedaandeaaOref4
import Derived.Test.YtjlhfmedaandeaaMoved2
/- opt.lively; vestibuleref26.Opt. -/
namespace Go.Proofs.Ytjlhfmedaandeaa
open Go.RowKit Go.ChangeShapes Go.WideShapes
set_option linter.unusedVariables false
set_option linter.unusedSimpArgs false

set_option maxRecDepth 100000 in
theorem livelyC (gb gp n : Nat) (ps : List Sy) (hp : ps.length = n) (W : World) (hB : Blk W gb 67 #[.slice (some ⟨gp, 0, none⟩) n n]) (hP : Blk W gp 3 (nums .i64 (pls ps n)).toArray) (t : Int) (ht : 0 ≤ t ∧ t < n) :
    Calls Try.prog 71 #[.int .i64 t, .pointer (some ⟨gb, 0, none⟩)] W fun e w' => e = .returned (.int .i64 (placeT ps t)) ∧ Ext W w' := by
  obtain ⟨t, rfl⟩ : ∃ x : Nat, t = x := ⟨t.toNat, by omega⟩
  have hv : placeT ps t = (placeN ps t : Int) := by unfold placeT; rw [Int.toNat_natCast]
  rw [hv]
  have c1 := blk_num hP t (by rw [pls_len]; omega)
  rw [pls_get ps n t (by omega), if_pos (by omega)] at c1
  have c0 := hB.cell 0
  simp only [List.getElem?_toArray, List.getElem?_cons_zero] at c0
  have t0 : (0 : Int) ≤ t := by omega
  have t1 : (t : Int) < n := by omega
  generalize placeN ps t = x at *
  clear hB hP hp ht hv
  go_enter Try.func71, Try.ntmps71
  go_wp2
  go_ret
  exact ⟨rfl, Ext.refl _⟩
set_option maxHeartbeats 4000000 in
set_option maxRecDepth 100000 in
theorem livelyI (b o n c : Nat) (ps : List Sy) (w : World) (hp : ps.length = n) (hY : MayL ps) (hM : InM w (some ⟨b, o, none⟩) (sc ps)) :
    Calls Try.prog 52 #[.slice (some ⟨b, o, none⟩) n c] w fun e w' => ∃ A c', e = .returned (.slice A (placeN ps n) c') ∧ w'.ownsRow w.heap.size 32 4 (.slice A (placeN ps n) c') (placeN ps n) (sc (deadL ps)) ∧ Ext w w' := by
  have n1 : 1 ≤ n := by have := hY.l1; omega
  have n2 : n ≤ 131072 := by have := hY.l2; omega
  have hmk := mk_ints n n2
  obtain ⟨i0, hi, hz0, hz1, hz2⟩ := info_parts info_sym
  have HI := Lib.hid hi; have HZ0 := Lib.hid hz0; have HZ1 := Lib.hid hz1; have HZ2 := Lib.hid hz2
  have HC := Lib.hid (optAlive (some ⟨b, o, none⟩) n c ps w hp hY hM)
  have HM := Lib.hid hM
  have HP := Lib.hid hp
  have HY := Lib.hid hY
  have HPZ := Lib.hid (show (nums .i64 (List.replicate n 0)).toArray = (nums .i64 (pls ps 0)).toArray from by rw [pls_zero, hp])
  clear hi hz0 hz1 hz2 hp hY hM
  go_enter Try.func52, Try.ntmps52
  go_wp2_with fail
  refine (HC.out).mono ?_
  rintro e w1 ⟨rfl, hal, hx1⟩
  have HAL := Lib.hid hal
  have hrep : Array.replicate n (Value.int .i64 0) = (nums .i64 (List.replicate n 0)).toArray := by simp [nums]
  have hbp := (Blk.new w1 3 (Array.replicate n (Value.int .i64 0))).alloc (.cells #[.slice (some ⟨w1.heap.size, 0, none⟩) n n] 67)
  have hbb : Blk ((w1.alloc (.cells (Array.replicate n (Value.int .i64 0)) 3)).alloc (.cells #[.slice (some ⟨w1.heap.size, 0, none⟩) n n] 67)) (w1.heap.size + 1) 67 #[.slice (some ⟨w1.heap.size, 0, none⟩) n n] := Blk.new_ (by simp)
  have HE1 := Lib.hid (((Ext.refl w1).alloc (.cells (Array.replicate n (Value.int .i64 0)) 3)).alloc (.cells #[.slice (some ⟨w1.heap.size, 0, none⟩) n n] 67))
  have hbp2 : Blk ((w1.alloc (.cells (Array.replicate n (Value.int .i64 0)) 3)).alloc (.cells #[.slice (some ⟨w1.heap.size, 0, none⟩) n n] 67)) w1.heap.size 3 (nums .i64 (pls ps 0)).toArray := by rw [← HPZ.out, ← hrep]; exact hbp
  have HBP := Lib.hid hbp2
  have HBB := Lib.hid hbb
  have hbc := hbb.cell 0
  simp only [List.getElem?_toArray, List.getElem?_cons_zero] at hbc
  have hgw : w.heap.size ≤ w1.heap.size := hx1.size
  clear hal hbp hbp2 hbb hrep HC
  go_wp2_with fail
  clear hbc
  go_loopw [5, 17] (fun v it W => ∃ k : Nat, k ≤ n ∧ v = .int .i64 (placeN ps k) ∧ it = .int .i64 k ∧ Ext w1 W ∧ Blk W w1.heap.size 3 (nums .i64 (pls ps k)).toArray ∧ Blk W (w1.heap.size + 1) 67 #[.slice (some ⟨w1.heap.size, 0, none⟩) n n]) (fun _ it _ => n - (intOf it).toNat)
  case atStart => exact ⟨0, Nat.zero_le _, rfl, rfl, HE1.out, HBP.out, HBB.out⟩
  case round =>
    obtain ⟨k, hk, rfl, rfl, hy, hB, hBB⟩ := hrel
    by_cases hlt : k < n
    · have hcb := hBB.cell 0
      simp only [List.getElem?_toArray, List.getElem?_cons_zero] at hcb
      have HBB2 := Lib.hid (hBB.far (p := ⟨w1.heap.size, k, none⟩) (by show w1.heap.size + 1 ≠ w1.heap.size; omega) (.int .i64 (placeN ps k)))
      have hkp : k < ps.length := by rw [HP.out]; exact hlt
      have cb := blk_bool (HAL.out.ext hy) k (aliveT_get HY.out k hkp)
      have hcp := blk_num hB k (by rw [pls_len]; exact hkp)
      have hfp := hB.frozen k
      have hset := blk_numset hB k (placeN ps k)
      rw [pls_set ps k hkp] at hset
      have hpl := placeN_le ps k
      have hps := placeN_succ ps k
      have p0 : (0 : Int) ≤ placeN ps k := by omega
      have p1 : (placeN ps k : Int) ≤ 131072 := by omega
      have k1 : (0 : Int) ≤ k := by omega
      have k2 : (k : Int) < n := by omega
      have HS := Lib.hid hset
      have HPS := Lib.hid hps
      have hyx := hy.set (p := ⟨w1.heap.size, k, none⟩) (Nat.le_refl _) (.int .i64 (placeN ps k))
      have HYX := Lib.hid hyx
      have cb2 := blk_bool (HAL.out.ext hyx) k (aliveT_get HY.out k hkp)
      generalize (pls ps k).getD k 0 = z0 at hcp
      generalize placeN ps k = pn at *
      clear hset hps hpl hkp hB hy hyx
      clear hBB
      rcases hv : aliveAt ps k with _ | _
      · rw [hv] at cb cb2 HPS
        rw [if_neg (by decide)] at HPS
        go_wp2_with fail
        go_roundw
        case rel => exact ⟨k + 1, by omega, by rw [HPS.out]; rfl, by go_num, HYX.out, HS.out, HBB2.out⟩
        case measure => simp [intOf]; omega
      · rw [hv] at cb cb2 HPS
        rw [if_pos rfl] at HPS
        go_wp2_with fail
        go_roundw
        case rel => exact ⟨k + 1, by omega, by rw [HPS.out]; go_num, by go_num, HYX.out, HS.out, HBB2.out⟩
        case measure => simp [intOf]; omega
    · obtain rfl : k = n := by omega
      have HMV := Lib.hid (movedL (w1.heap.size + 1) (placeT ps) (fun t => 0 ≤ t ∧ t < k) b o k c ps wr HP.out n1 n2 (HM.out.ext (hx1.trans hy))
        (fun i hi => ⟨_, _, kind_of (HY.out.one i (by rw [HP.out]; exact hi))⟩)
        (fun i hi t ht => by
          have hK := kind_of (HY.out.one i (by rw [HP.out]; exact hi))
          rw [HP.out] at hK
          have hb := tgt_bd hK ht
          omega)
        (fun W t hW ht => livelyC (w1.heap.size + 1) w1.heap.size k ps HP.out W (hBB.ext hW) (hB.ext hW) t ht))
      have HYE := Lib.hid hy
      have hgw2 : w.heap.size ≤ wr.heap.size := by have := hy.size; have := hx1.size; omega
      have HGW := Lib.hid hgw2
      have HDL0 := Lib.hid (deadUp_len ps)
      have HDY := Lib.hid (deadUp_yes ps)
      have HDN := Lib.hid (deadUp_no ps)
      have HD0 := Lib.hid (show deadUp ps 0 = [] from rfl)
      have HDA := Lib.hid (show sc (deadUp ps k) = sc (deadL ps) from by unfold deadUp deadL; rw [HP.out])
      have HML := Lib.hid (show (ps.map (mv (placeT ps))).length = k from by rw [List.length_map]; exact HP.out)
      clear hB hBB hy HE1 HBP HBB hmk HPZ hgw2
      go_wp2_with fail
      refine (HMV.out).mono ?_
      rintro e w2 ⟨gq, cq, more, rfl, hbq, hgq, hx2⟩
      have HBQ := Lib.hid ((InM.ofBlk hbq rfl).prefix_)
      have HX2 := Lib.hid hx2
      have HGQ := Lib.hid hgq
      clear hbq hgq hx2 HMV
      go_wp2_with fail
      go_loopw [7, 35] (fun v it W => ∃ (j : Nat) (A1 : Option Addr) (c1 : Nat), j ≤ k ∧ it = .int .i64 j ∧ (v = .slice A1 (placeN ps j) c1 ∧ W.ownsRow w2.heap.size 32 4 (.slice A1 (placeN ps j) c1) (placeN ps j) (sc (deadUp ps j))) ∧ Ext w2 W) (fun _ it _ => k - (intOf it).toNat)
      case atStart => exact ⟨0, none, 0, Nat.zero_le _, rfl, ⟨rfl, by rw [HD0.out]; exact World.ownsRow_nil _ _ _ _⟩, Ext.refl _⟩
      case round =>
        obtain ⟨w0, rfl⟩ : ∃ w0 : World, w0 = wr := ⟨_, rfl⟩
        obtain ⟨j, A1, c1, hj, rfl, ⟨rfl, ho⟩, hy⟩ := hrel
        by_cases hlt2 : j < k
        · have hjp : j < ps.length := by rw [HP.out]; exact hlt2
          have hjm : j < (ps.map (mv (placeT ps))).length := by rw [HML.out]; exact hlt2
          have hdy := HDY.out j
          have hdn := HDN.out j
          have HDL := Lib.hid (HDL0.out j)
          have hps := placeN_succ ps j
          have hpn := placeN_le ps j
          have hgd : (ps.map (mv (placeT ps)))[j] = mv (placeT ps) (ps.getD j zeroS) := by simp [List.getD_eq_getElem?_getD, hjp]
          have PC := sym_cells (HBQ.out.ext hy) hjm
          rw [hgd] at PC
          have PA := Lib.hid (fun W' (h : Ext w2 W') => blk_bool (HAL.out.ext ((HYE.out.trans HX2.out).trans h)) j (aliveT_get HY.out j hjp))
          generalize mv (placeT ps) (ps.getD j zeroS) = s at *
          obtain ⟨co, kk, th, el⟩ := s
          obtain ⟨q0, q1, q2, q3⟩ := PC
          simp only [Nat.zero_add] at q0 q1 q2 q3
          have j0 : (0 : Int) ≤ j := by omega
          have j1 : (j : Int) < k := by omega
          have j2 : (j : Int) ≤ 131072 := by omega
          have bs := Blk.new w0 32 #[.int .u16 co, .int .u32 kk, .int .i64 th, .int .i64 el]
          have hE0 := (Ext.refl w0).alloc (.cells #[.int .u16 co, .int .u32 kk, .int .i64 th, .int .i64 el] 32)
          have s0 := (bs).cell 0
          have s1 := (bs).cell 1
          have s2 := (bs).cell 2
          have s3 := (bs).cell 3
          have HDYX := Lib.hid hdy
          have HDNX := Lib.hid hdn
          have HPSX := Lib.hid hps
          have HMV := Lib.hid (rfl : (⟨co, kk, th, el⟩ : Sy) = ⟨co, kk, th, el⟩)
          have ca := PA.out _ (hy.trans hE0)
          clear hdy hdn hps hgd hjp hjm bs
          rcases hv : aliveAt ps j with _ | _
          · have HD1 := Lib.hid (HDNX.out hv)
            have HP1 := Lib.hid (HPSX.out.trans (by rw [hv, if_neg (by decide), Nat.add_zero]))
            rw [hv] at ca
            have HO2 := Lib.hid (own_ext ho hE0)
            clear ho
            go_wp2_with fail
            go_roundw
            case rel => exact ⟨j + 1, A1, c1, by omega, by go_num, ⟨by rw [HP1.out], by rw [HP1.out, HD1.out]; exact HO2.out⟩, hy.trans hE0⟩
            case measure => simp [intOf]; omega
          · have HD1 := Lib.hid (HDYX.out hv)
            have HP1 := Lib.hid (HPSX.out.trans (by rw [hv, if_pos rfl]))
            rw [hv] at ca
            clear hv
            have hl1 : (sc (deadUp ps j)).length = (placeN ps j) * 4 := by rw [sc_length]; have := HDL.out; omega
            have ho7 := own_ext ho ((hE0).alloc (.cells #[.int .u16 co, .int .u32 kk, .int .i64 th, .int .i64 el] 32))
            have hy7 := ((hy).trans hE0).alloc (.cells #[.int .u16 co, .int .u32 kk, .int .i64 th, .int .i64 el] 32)
            have hrow : InM (((w0.alloc (.cells #[.int .u16 co, .int .u32 kk, .int .i64 th, .int .i64 el] 32))).alloc (.cells #[.int .u16 co, .int .u32 kk, .int .i64 th, .int .i64 el] 32)) (some ⟨(w0.heap.size + 1), 0, none⟩) (sc [⟨co, kk, th, el⟩]) := InM.ofBlk (Blk.new_ (by first | rfl | simp)) rfl
            have hb1 : (placeN ps j) + 1 ≤ 1000000 := by omega
            have hb0 : 24 ≤ 10000 := by decide
            go_wp2_with (refine wpList_app rfl (.tmp 44) (.tmp 46) 22 rfl w2.heap.size 32 i0 _ 4 24 Try.underlying22 HI.out HZ0.out HZ1.out HZ2.out rfl (by decide) A1 ((placeN ps j)) c1 (sc (deadUp ps j)) rfl ho7 _ 1 1 (sc [⟨co, kk, th, el⟩]) rfl rfl hrow (sc_one _) hb1 hb0 hy7.size ?_; intro A8 c8 w8 ho8 hg8 hzz; have hx8 := hy7.app ho7 (Nat.le_refl _) hg8; rw [← sc_append] at ho8; clear hg8 hzz)
            clear ho7 hy7 hrow hl1 hb0 hb1
            go_roundw
            case rel => exact ⟨j + 1, A8, c8, by omega, by go_num, ⟨by rw [HP1.out], by rw [HP1.out, HD1.out]; exact ho8⟩, hx8⟩
            case measure => simp [intOf]; omega
        · obtain rfl : j = k := by omega
          have HO := Lib.hid ho
          clear ho
          go_wp2_with fail
          go_ret
          exact ⟨A1, c1, rfl, by rw [← HDA.out]; exact own_mono HO.out (by have := HX2.out.size; have := HGW.out; omega), hx1.trans (HYE.out.trans (HX2.out.trans hy))⟩
set_option maxRecDepth 100000 in
theorem refOptI (b o n c : Nat) (ps : List Sy) (w : World) (hp : ps.length = n) (hY : MayL ps) (hM : InM w (some ⟨b, o, none⟩) (sc ps)) :
    Calls Try.prog 32 #[.slice (some ⟨b, o, none⟩) n c] w fun e w' => ∃ A c', e = .returned (.slice A (optL ps).length c') ∧ InM w' A (sc (optL ps)) ∧ Ext w w' := by
  have h1 := share_may hY
  have h2 := thread_may h1
  have l1 : (shareL ps).length = n := by rw [share_len]; exact hp
  have l2 : (threadL (shareL ps)).length = n := by rw [thread_len h1]; exact l1
  have HS := Lib.hid (refShareI b o n c ps w hp hY hM)
  have HT := Lib.hid (fun g c' W hW => refThreadI g 0 n c' (shareL ps) W l1 h1 hW)
  have HD := Lib.hid (fun g c' W hW => refDeadI g 0 n c' (threadL (shareL ps)) W l2 h2 hW)
  have HL := Lib.hid (show (optL ps).length = placeN (threadL (shareL ps)) n from by unfold optL; rw [dead_len, l2])
  rw [HL.out]
  have HO := Lib.hid (show sc (deadL (threadL (shareL ps))) = sc (optL ps) from rfl)
  clear hp hY hM h1 h2 l1 l2 HL
  go_enter Try.func32, Try.ntmps32
  go_wp2_with fail
  refine (HS.out).mono ?_
  rintro e w1 ⟨g1, c1, m1, rfl, hb1, hg1, hx1⟩
  go_wp2_with fail
  refine (HT.out _ _ _ (InM.ofBlk hb1 rfl).prefix_).mono ?_
  rintro e w2 ⟨g2, c2, m2, rfl, hb2, hg2, hx2⟩
  go_wp2_with fail
  refine (HD.out _ _ _ (InM.ofBlk hb2 rfl).prefix_).mono ?_
  rintro e w3 ⟨A3, c3, rfl, ho3, hx3⟩
  go_wp2_with fail
  go_ret
  exact ⟨A3, c3, rfl, by have := own_inM ho3; exact this, hx1.trans (hx2.trans hx3)⟩
end Go.Proofs.Ytjlhfmedaandeaa
