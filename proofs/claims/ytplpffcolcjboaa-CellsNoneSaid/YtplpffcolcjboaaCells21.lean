import Derived.Test.YtplpffcolcjboaaCells20
/- The document's Unsure; that it is what cells.Unsure computes. -/
namespace Go.Proofs.Ytplpffcolcjboaa
open Go.RowKit Go.ChangeShapes Go.WideShapes
set_option linter.unusedVariables false
set_option linter.unusedSimpArgs false

def rdb (i : Ins) : Bool := (i.code == 96 || i.code == 97) && decide (i.k < 16)
/-- Does a place read a cell that isn't sure? (its mask, whether it is reached) -/
def badR (i : Ins) (r : Bool) (m : Int) : Bool := r && rdb i && (m / 2 ^ i.k.toNat % 2 == 0)
def unU (ps : List Ins) (k : Nat) : List Int := (List.range k).filterMap fun j => if badR (ps.getD j zeroI) ((reachL ps).getD j false) ((sureL ps).getD j 0) then some (j : Int) else none
def unsureL (ps : List Ins) : List Int := unU ps (sureL ps).length
theorem unU_succ (ps : List Ins) (k : Nat) : unU ps (k + 1) = unU ps k ++ (if badR (ps.getD k zeroI) ((reachL ps).getD k false) ((sureL ps).getD k 0) then [(k : Int)] else []) := by
  unfold unU
  rw [List.range_succ, List.filterMap_append]
  congr 1
  rw [List.filterMap_cons, List.filterMap_nil]
  cases badR (ps.getD k zeroI) ((reachL ps).getD k false) ((sureL ps).getD k 0) <;> rfl
theorem unU_len (ps : List Ins) (k : Nat) : (unU ps k).length ≤ k := Nat.le_trans (List.length_filterMap_le _ _) (by simp)

theorem andNot_bit (a b c : Nat) (hc : c < 16) : ((BitVec.ofInt 16 (a : Int)) &&& ~~~ (BitVec.ofInt 16 (b : Int))).toNat.testBit c = (a.testBit c && !b.testBit c) := by
  have e : ∀ x : Nat, (BitVec.ofInt 16 (x : Int)).getLsbD c = x.testBit c := fun x => by
    rw [BitVec.ofInt_natCast, BitVec.getLsbD_ofNat]
    simp [hc]
  have h : ∀ v : BitVec 16, v.toNat.testBit c = v.getLsbD c := fun v => rfl
  rw [h, BitVec.getLsbD_and, BitVec.getLsbD_not, e, e]
  simp [hc]
theorem andNot_pow (k m : Nat) (hk : k < 16) (hm : m < 65536) : (bits .andNot .u16 ((2 ^ k : Nat) : Int) (m : Int) != 0) = !m.testBit k := by
  have hb : bits .andNot .u16 ((2 ^ k : Nat) : Int) (m : Int) = ((((BitVec.ofInt 16 ((2 ^ k : Nat) : Int)) &&& ~~~ (BitVec.ofInt 16 (m : Int))).toNat : Nat) : Int) := by
    have hl := ((BitVec.ofInt 16 ((2 ^ k : Nat) : Int)) &&& ~~~ (BitVec.ofInt 16 (m : Int))).isLt
    show IntKind.u16.wrap ((((BitVec.ofInt 16 ((2 ^ k : Nat) : Int)) &&& ~~~ (BitVec.ofInt 16 (m : Int))).toNat : Nat) : Int) = _
    exact IntWalk.u16_in _ (by omega)
  rw [hb]
  have hbit := fun c hc => andNot_bit (2 ^ k) m c hc
  generalize ((BitVec.ofInt 16 ((2 ^ k : Nat) : Int)) &&& ~~~ (BitVec.ofInt 16 (m : Int))) = v at *
  cases ht : m.testBit k with
  | true =>
    have : v.toNat = 0 := eq_of_bits _ _ (by have := v.isLt; omega) (by omega) (fun c hc => by
      rw [hbit c hc, Nat.testBit_two_pow, Nat.zero_testBit]
      by_cases e : k = c
      · subst e; simp [ht]
      · simp [e])
    rw [this]
    rfl
  | false =>
    have h1 := hbit k hk
    rw [Nat.testBit_two_pow, ht] at h1
    have : v.toNat ≠ 0 := fun e => by rw [e] at h1; simp at h1
    have h2 : ((v.toNat : Nat) : Int) ≠ 0 := by omega
    simpa using h2
theorem bad_same (i : Ins) (hi : i.ok) (m : Nat) (hm : m < 65536) : badM i m = (rdb i && ((m : Int) / 2 ^ i.k.toNat % 2 == 0)) := by
  have k0 : 0 ≤ i.k := hi.2.2.2.1
  obtain ⟨k, hk⟩ : ∃ k : Nat, i.k = k := ⟨i.k.toNat, by omega⟩
  unfold badM rdM rdb
  rw [hk]
  cases (i.code == 96 || i.code == 97) with
  | false =>
    simp only [Bool.false_and, Bool.false_eq_true, if_false]
    have h : bits .andNot .u16 0 (m : Int) = 0 := by
      have := fun c hc => andNot_bit 0 m c hc
      show IntKind.u16.wrap (((BitVec.ofInt 16 ((0 : Nat) : Int)) &&& ~~~ (BitVec.ofInt 16 (m : Int))).toNat : Int) = 0
      have e : ((BitVec.ofInt 16 ((0 : Nat) : Int)) &&& ~~~ (BitVec.ofInt 16 (m : Int))).toNat = 0 := eq_of_bits _ _ (by have := ((BitVec.ofInt 16 ((0 : Nat) : Int)) &&& ~~~ (BitVec.ofInt 16 (m : Int))).isLt; omega) (by omega) (fun c hc => by rw [this c hc]; simp)
      rw [e]
      rfl
    rw [h]
    rfl
  | true =>
    by_cases h : k < 16
    · have hk' : ((k : Int) < 16) := by omega
      simp only [hk', decide_true, Bool.and_self, if_true, Int.toNat_natCast, Bool.true_and]
      have := andNot_pow k m h hm
      rw [show ((2 : Int) ^ k) = ((2 ^ k : Nat) : Int) by simp, this, Nat.testBit_eq_decide_div_mod_eq]
      have e : ((m : Int) / ((2 ^ k : Nat) : Int) % 2) = ((m / 2 ^ k % 2 : Nat) : Int) := by simp
      rw [e]
      have h2 : m / 2 ^ k % 2 < 2 := Nat.mod_lt _ (by omega)
      generalize m / 2 ^ k % 2 = r at *
      have : r = 0 ∨ r = 1 := by omega
      rcases this with rfl | rfl <;> rfl
    · have hk' : ¬ ((k : Int) < 16) := by omega
      simp only [hk', decide_false, Bool.and_false, Bool.false_eq_true, if_false, Bool.false_and]
      have h : bits .andNot .u16 0 (m : Int) = 0 := by
        have := fun c hc => andNot_bit 0 m c hc
        show IntKind.u16.wrap (((BitVec.ofInt 16 ((0 : Nat) : Int)) &&& ~~~ (BitVec.ofInt 16 (m : Int))).toNat : Int) = 0
        have e : ((BitVec.ofInt 16 ((0 : Nat) : Int)) &&& ~~~ (BitVec.ofInt 16 (m : Int))).toNat = 0 := eq_of_bits _ _ (by have := ((BitVec.ofInt 16 ((0 : Nat) : Int)) &&& ~~~ (BitVec.ofInt 16 (m : Int))).isLt; omega) (by omega) (fun c hc => by rw [this c hc]; simp)
        rw [e]
        rfl
      rw [h]
      rfl
theorem reach_get (ps : List Ins) (hok : ∀ i ∈ ps, i.ok) (hn : ¬ 4096 < ps.length) (j : Nat) (hj : j < ps.length) : (reachL ps).getD j false = (rupto ps j).getD j false := by
  unfold reachL
  rw [if_neg hn, show ps.length = j + (ps.length - j) by omega, rupto_stable ps hok j]
theorem unsure_upto (ps : List Ins) (hok : ∀ i ∈ ps, i.ok) (hn : ¬ 4096 < ps.length) : ∀ k, k ≤ ps.length → unsureOf ps (visits ps k) = unU ps k
  | 0, _ => rfl
  | k + 1, hk => by
    have hkl : k < ps.length := by omega
    have hget : ps.getD k zeroI = ps[k] := by rw [List.getD_eq_getElem?_getD, List.getElem?_eq_getElem hkl]; rfl
    have hik := hok _ (List.getElem_mem hkl)
    rw [visits_succ, unU_succ, wupto_snd, reach_get ps hok hn k hkl]
    cases hr : (rupto ps k).getD k false with
    | false =>
      simp only [Bool.false_eq_true, if_false, List.append_nil, badR, Bool.false_and]
      exact unsure_upto ps hok hn k (by omega)
    | true =>
      simp only [if_true]
      rw [unsureOf_snoc, unsure_upto ps hok hn k (by omega)]
      congr 1
      dsimp only
      obtain ⟨x, h1, h2, _⟩ := (sure_bit ps hok 0 (by omega) k (by omega)).yes k (by rw [(wupto_len ps k).2]; omega) (by rw [wupto_snd]; exact hr)
      have h3 : (sureL ps).getD k 0 = x := by
        rw [← sure_same ps hok]
        unfold sureT
        rw [if_neg hn, masks_get ps _ k hkl, if_pos ⟨hkl, hr⟩, h1]
      rw [h1, h3, hget, bad_same _ hik x h2]
      simp [badR]
theorem unsure_same (ps : List Ins) (hok : ∀ i ∈ ps, i.ok) : unsureT ps = unsureL ps := by
  unfold unsureT unsureL
  by_cases hn : 4096 < ps.length
  · rw [if_pos hn]
    have : sureL ps = [] := by unfold sureL; rw [if_pos hn]
    rw [this]
    rfl
  · rw [if_neg hn]
    have : (sureL ps).length = ps.length := by unfold sureL; rw [if_neg hn, cellsUpto_length]
    rw [this]
    exact unsure_upto ps hok hn _ (Nat.le_refl _)

theorem bools_cell' {l : List Bool} {k : Nat} (hk : k < l.length) : (l.map Value.bool)[k]? = some (.bool l[k]) := by simp [hk]
set_option maxHeartbeats 4000000 in
set_option maxRecDepth 100000 in
theorem refUnsure (A : Option Addr) (n c0 : Nat) (ps : List Ins) (w : World) (hp : ps.length = n) (hb : n ≤ 100000) (hok : ∀ i ∈ ps, i.ok) (hM : InM w A (pc ps)) :
    Calls Try.prog 38 #[.slice A n c0] w fun e w' => ∃ P c', e = .returned (.slice P (unsureL ps).length c') ∧ w'.ownsRow w.heap.size 3 1 (.slice P (unsureL ps).length c') (unsureL ps).length (nums .i64 (unsureL ps)) ∧ Ext w w' := by
  have H1 := Lib.hid (refSure A n c0 ps w hp hb hok hM)
  have H2 := Lib.hid (fun W h => refReached A n c0 ps W hp hb hok h)
  have HM := Lib.hid hM
  have hlen : (sureL ps).length ≤ n ∧ (reachL ps).length = (sureL ps).length := by
    unfold sureL reachL
    by_cases big : 4096 < ps.length
    · rw [if_pos big, if_pos big]; simp
    · rw [if_neg big, if_neg big, cellsUpto_length, rupto_length]; exact ⟨by omega, rfl⟩
  have hpos : ∀ k, k < (sureL ps).length → ∃ x : Nat, (sureL ps).getD k 0 = x ∧ x < 65536 := fun k hk => by
    by_cases big : 4096 < ps.length
    · unfold sureL at hk; rw [if_pos big] at hk; simp at hk
    · obtain ⟨x, h1, h2, _⟩ := sureT_bit ps hok big k (by omega)
      exact ⟨x, by rw [← sure_same ps hok]; exact h1, h2⟩
  have HPOS := Lib.hid hpos
  have HP := Lib.hid hp
  have HOK := Lib.hid hok
  have HUS := Lib.hid (unU_succ ps)
  have HUL := Lib.hid (unU_len ps)
  have hz0 : unsureL ps = unU ps (sureL ps).length := rfl
  rw [hz0]
  have hown := World.ownsRow_nil w w.heap.size 3 1
  clear hp hok hM hpos hz0
  generalize sureL ps = sl at *
  generalize reachL ps = rl at *
  go_enter Try.func38, Try.ntmps38
  go_wp2_with fail
  refine (H1.out).mono ?_
  rintro e w1 ⟨S, rfl, hS, hx1⟩
  go_wp2_with fail
  refine (H2.out _ (HM.out.ext hx1)).mono ?_
  rintro e w2 ⟨R, rfl, hR, hx2⟩
  replace hS := hS.ext hx2
  have hx := hx1.trans hx2
  have hown2 := own_ext hown hx
  have hu0 : unU ps 0 = [] := rfl
  clear hx1 hx2 H1 H2 hown
  go_wp2_with fail
  go_loopw [3, 6] (fun l i wr => ∃ (k : Nat) (P : Option Addr) (cl : Nat), k ≤ sl.length ∧ i = .int .i64 k ∧ l = .slice P (unU ps k).length cl ∧ wr.ownsRow w2.heap.size 3 1 (.slice P (unU ps k).length cl) (unU ps k).length (nums .i64 (unU ps k)) ∧ Ext w2 wr) (fun _ i _ => sl.length - (intOf i).toNat)
  case atStart => exact ⟨0, none, 0, by omega, rfl, by rw [hu0]; rfl, by rw [hu0]; exact World.ownsRow_nil _ _ _ _, Ext.refl _⟩
  case round =>
    clear hown2 hu0
    obtain ⟨k, L, cl, hk, rfl, rfl, ho, hy⟩ := hrel
    have hx0 := hx
    replace hx := hx.trans hy
    replace hS := hS.ext hy
    replace hR := hR.ext hy
    have hul := HUL.out k
    by_cases hlt : k < sl.length
    · have hkp : k < ps.length := by have := HP.out; omega
      have hMr := HM.out.ext hx
      obtain ⟨b0, o0, rfl, _⟩ := prog_some hMr (by omega)
      obtain ⟨bS, oS, rfl, _, _⟩ := hS.num hlt
      obtain ⟨bR, oR, rfl, _, _⟩ := hR.at_ (k := k) (by simp; omega)
      obtain ⟨q0, q1, q2, q3⟩ := prog_cells hMr hkp
      have cS := hS.cell (nums_at hlt)
      have cR := hR.cell (bools_cell' (show k < rl.length by omega))
      have eS : sl.getD k 0 = sl[k] := by rw [List.getD_eq_getElem?_getD, List.getElem?_eq_getElem hlt]; rfl
      have eR : rl.getD k false = rl[k]'(by omega) := by rw [List.getD_eq_getElem?_getD, List.getElem?_eq_getElem (by omega)]; rfl
      have hget : ps.getD k zeroI = ps[k] := by rw [List.getD_eq_getElem?_getD, List.getElem?_eq_getElem hkp]; rfl
      have hs := HUS.out k
      have hpos := HPOS.out k hlt
      rw [hget, eS, eR] at hs
      rw [eS] at hpos
      have hik := HOK.out _ (List.getElem_mem hkp)
      clear hget eS eR hMr
      generalize ps[k] = P at *
      generalize sl[k] = x at *
      generalize rl[k]'(by omega) = r at *
      obtain ⟨xx, rfl, hxx⟩ := hpos
      obtain ⟨co, jt, jf, kk⟩ := P
      dsimp only at q0 q1 q2 q3
      have kk0 : 0 ≤ kk := hik.2.2.2.1
      have hrd : rdb ⟨co, jt, jf, kk⟩ = ((co == 96 || co == 97) && decide (kk < 16)) := rfl
      have HS := Lib.hid hs
      have HO := Lib.hid ho
      have HY := Lib.hid hy
      have k1 : (0 : Int) ≤ k := by omega
      have k2 : (k : Int) < sl.length := by omega
      have k3 : (k : Int) < n := by have := HP.out; omega
      have hul2 := hul
      clear hs ho hS hR hik hul hy
      generalize unU ps k = un at *
      refine wp_seq_k fun K4 hK4 => ?_
      have HK4 := Lib.hid hK4; clear hK4
      go_wp2
      refine HK4.out _ _ ?_
      clear HK4
      refine wp_seq_k fun K5 hK5 => ?_
      refine wp_block ?_
      refine wp_seq ?_
      obtain ⟨QM, hQM⟩ : ∃ QM : Exit → Act → World → Prop, QM = fun e a' W => e = .normal ∧ ∃ v18 v19 v20 v21 v22 v23 v24 v25 v26 v27 v28 v29 v30 v31 v32 v33 v34 v35 v36 v37 v38 v39 : Value, a' = { tmps := #[.slice (some ⟨b0, o0, none⟩) n c0, undef, .slice none 0 0, .slice L un.length cl, .slice (some ⟨bS, oS, none⟩) sl.length sl.length, .slice (some ⟨bR, oR, none⟩) sl.length sl.length, .int .i64 k, .bool (rdb ⟨co, jt, jf, kk⟩), .slice (some ⟨b0, o0, none⟩) n c0, .slice (some ⟨bS, oS, none⟩) sl.length sl.length, .slice (some ⟨b0, o0, none⟩) n c0, .slice (some ⟨bR, oR, none⟩) sl.length sl.length, .int .i64 k, .slice (some ⟨bS, oS, none⟩) sl.length sl.length, .int .i64 sl.length, .bool true, u16, u17, v18, v19, v20, v21, v22, v23, v24, v25, v26, v27, v28, v29, v30, v31, v32, v33, v34, v35, v36, v37, v38, v39, u40, u41, u42, u43, u44, u45, u46, u47, u48, u49, u50, u51, u52, u53, u54, u55, u56, u57, u58, u59, u60, u61, u62, u63, u64, undef], defers := [] } ∧ W = wr := ⟨_, rfl⟩
      have HQM := Lib.hid hQM; clear hQM
      refine wp_mono (Q := QM) ?one ?two
      case one =>
        clear hK5 HO HY HS HPOS HUL HUS
        by_cases hc : co = 96 ∨ co = 97
        · have e1 : (co == 96 || co == 97) = true := by simpa using hc
          by_cases hk16 : kk < 16
          · have e2 : rdb ⟨co, jt, jf, kk⟩ = true := by rw [hrd, e1]; simp [hk16]
            rw [e2] at HQM
            rcases hc with rfl | rfl
            all_goals
              clear hrd e1 e2
              go_wp2
              rw [HQM.out]
              exact ⟨rfl, _, _, _, _, _, _, _, _, _, _, _, _, _, _, _, _, _, _, _, _, _, _, rfl, rfl⟩
          · have e2 : rdb ⟨co, jt, jf, kk⟩ = false := by rw [hrd, e1]; simp [hk16]
            rw [e2] at HQM
            rcases hc with rfl | rfl
            all_goals
              clear hrd e1 e2
              go_wp2
              rw [HQM.out]
              exact ⟨rfl, _, _, _, _, _, _, _, _, _, _, _, _, _, _, _, _, _, _, _, _, _, _, rfl, rfl⟩
        · have h1 : (co == 96) = false := by simp; omega
          have h2 : (co == 97) = false := by simp; omega
          have e2 : rdb ⟨co, jt, jf, kk⟩ = false := by rw [hrd, h1, h2]; rfl
          rw [e2] at HQM
          clear hrd hc e2
          go_wp2
          rw [HQM.out]
          exact ⟨rfl, _, _, _, _, _, _, _, _, _, _, _, _, _, _, _, _, _, _, _, _, _, _, rfl, rfl⟩
      case two =>
        rw [HQM.out]
        clear HQM QM q0 q1 q2
        rintro e a' W ⟨rfl, v18, v19, v20, v21, v22, v23, v24, v25, v26, v27, v28, v29, v30, v31, v32, v33, v34, v35, v36, v37, v38, v39, rfl, rfl⟩
        simp only [Exit.then]
        have hb0 : badR ⟨co, jt, jf, kk⟩ r xx = (r && rdb ⟨co, jt, jf, kk⟩ && ((xx : Int) / 2 ^ kk.toNat % 2 == 0)) := rfl
        rw [hb0] at HS
        clear hb0
        have hk16 : rdb ⟨co, jt, jf, kk⟩ = true → kk < 16 := fun h => by
          rw [hrd] at h
          simp at h
          omega
        have HK := Lib.hid hk16
        clear hrd hk16
        generalize rdb ⟨co, jt, jf, kk⟩ = rd at *
        have HcR := Lib.hid cR
        have HcS := Lib.hid cS
        have Hq3 := Lib.hid q3
        clear cR cS q3
        cases r with
        | false =>
          simp only [Bool.false_and, Bool.false_eq_true, if_false, List.append_nil] at HS
          go_wp2_with fail
          refine wp_region_mono rfl [.is ?va0, .is ?va1, .is ?va2, .is (.bool false), .is (.bool false), .is undef, .is (.bool false), .is (.bool false), .is undef, .is undef, .is undef, .is undef, .is undef, .is undef, .is undef, .is undef, .is undef, .is undef, .is undef, .is undef, .is (.bool false)] (by kernel_rfl) (by kernel_rfl) ?Aa ?hAa ⟨?oa0, ?oa1, ?oa2, ?oa3, ?oa4, ?oa5, ?oa6, ?oa7, ?oa8, ?oa9, ?oa10, ?oa11, ?oa12, ?oa13, ?oa14, ?oa15, ?oa16, ?oa17, ?oa18, ?oa19, ?oa20, trivial⟩ ?fina
          case hAa => (intro x; simp only [fillOps, Act.put, List.setIfInBounds_toArray, List.set_cons_zero, List.set_cons_succ, Nat.reduceAdd]; rfl)
          case oa0 =>
            intro x U hU
            simp only [depV, One, dstOf, readDst, asBool, VP.is, VP.any, VP.row, VP.ptr, VP.blk, VP.ex, VP.and, VP.of, List.getD_cons_zero, List.getD_cons_succ]
            go_wp2_with (fail)
            refine done_mk ?_ rfl (Ext.refl _)
            rfl
          case oa1 =>
            intro x U hU
            simp only [depV, One, dstOf, readDst, asBool, VP.is, VP.any, VP.row, VP.ptr, VP.blk, VP.ex, VP.and, VP.of, List.getD_cons_zero, List.getD_cons_succ]
            go_wp2_with (fail)
            refine done_mk ?_ rfl (Ext.refl _)
            rfl
          case oa2 =>
            intro x U hU
            simp only [depV, One, dstOf, readDst, asBool, VP.is, VP.any, VP.row, VP.ptr, VP.blk, VP.ex, VP.and, VP.of, List.getD_cons_zero, List.getD_cons_succ]
            intro d0
            intro d1
            simp only [d0, d1]
            go_wp2_with (fail)
            refine done_mk ?_ rfl (Ext.refl _)
            rfl
          case oa3 =>
            intro x U hU
            simp only [depV, One, dstOf, readDst, asBool, VP.is, VP.any, VP.row, VP.ptr, VP.blk, VP.ex, VP.and, VP.of, List.getD_cons_zero, List.getD_cons_succ]
            intro d2
            simp only [d2]
            have h0 := hU.cell HcR.out
            go_wp2_with (fail)
            refine done_mk ?_ rfl (Ext.refl _)
            rfl
          case oa4 =>
            intro x U hU
            simp only [depV, One, dstOf, readDst, asBool, VP.is, VP.any, VP.row, VP.ptr, VP.blk, VP.ex, VP.and, VP.of, List.getD_cons_zero, List.getD_cons_succ]
            intro d3
            simp only [d3]
            go_wp2_with (fail)
            refine done_mk ?_ rfl (Ext.refl _)
            rfl
          case oa5 =>
            intro x U hU
            simp only [depV, One, dstOf, readDst, asBool, VP.is, VP.any, VP.row, VP.ptr, VP.blk, VP.ex, VP.and, VP.of, List.getD_cons_zero, List.getD_cons_succ]
            intro d4
            simp only [d4]
            exact gcase_skip (by first | decide | simp) (by first | rfl | trivial)
          case oa6 =>
            intro x U hU
            simp only [depV, One, dstOf, readDst, asBool, VP.is, VP.any, VP.row, VP.ptr, VP.blk, VP.ex, VP.and, VP.of, List.getD_cons_zero, List.getD_cons_succ]
            intro d4
            intro d5
            simp only [d4, d5]
            go_wp2_with (fail)
            refine done_mk ?_ rfl (Ext.refl _)
            rfl
          case oa7 =>
            intro x U hU
            simp only [depV, One, dstOf, readDst, asBool, VP.is, VP.any, VP.row, VP.ptr, VP.blk, VP.ex, VP.and, VP.of, List.getD_cons_zero, List.getD_cons_succ]
            intro d6
            simp only [d6]
            go_wp2_with (fail)
            refine done_mk ?_ rfl (Ext.refl _)
            rfl
          case oa8 =>
            intro x U hU
            simp only [depV, One, dstOf, readDst, asBool, VP.is, VP.any, VP.row, VP.ptr, VP.blk, VP.ex, VP.and, VP.of, List.getD_cons_zero, List.getD_cons_succ]
            intro d7
            simp only [d7]
            exact gcase_skip (by first | decide | simp) (by first | rfl | trivial)
          case oa9 =>
            intro x U hU
            simp only [depV, One, dstOf, readDst, asBool, VP.is, VP.any, VP.row, VP.ptr, VP.blk, VP.ex, VP.and, VP.of, List.getD_cons_zero, List.getD_cons_succ]
            intro d7
            simp only [d7]
            exact gcase_skip (by first | decide | simp) (by first | rfl | trivial)
          case oa10 =>
            intro x U hU
            simp only [depV, One, dstOf, readDst, asBool, VP.is, VP.any, VP.row, VP.ptr, VP.blk, VP.ex, VP.and, VP.of, List.getD_cons_zero, List.getD_cons_succ]
            intro d8
            intro d9
            intro d7
            simp only [d8, d9, d7]
            exact gcase_skip (by first | decide | simp) (by first | rfl | trivial)
          case oa11 =>
            intro x U hU
            simp only [depV, One, dstOf, readDst, asBool, VP.is, VP.any, VP.row, VP.ptr, VP.blk, VP.ex, VP.and, VP.of, List.getD_cons_zero, List.getD_cons_succ]
            intro d10
            intro d7
            simp only [d10, d7]
            exact gcase_skip (by first | decide | simp) (by first | rfl | trivial)
          case oa12 =>
            intro x U hU
            simp only [depV, One, dstOf, readDst, asBool, VP.is, VP.any, VP.row, VP.ptr, VP.blk, VP.ex, VP.and, VP.of, List.getD_cons_zero, List.getD_cons_succ]
            intro d7
            simp only [d7]
            exact gcase_skip (by first | decide | simp) (by first | rfl | trivial)
          case oa13 =>
            intro x U hU
            simp only [depV, One, dstOf, readDst, asBool, VP.is, VP.any, VP.row, VP.ptr, VP.blk, VP.ex, VP.and, VP.of, List.getD_cons_zero, List.getD_cons_succ]
            intro d7
            simp only [d7]
            exact gcase_skip (by first | decide | simp) (by first | rfl | trivial)
          case oa14 =>
            intro x U hU
            simp only [depV, One, dstOf, readDst, asBool, VP.is, VP.any, VP.row, VP.ptr, VP.blk, VP.ex, VP.and, VP.of, List.getD_cons_zero, List.getD_cons_succ]
            intro d12
            intro d13
            intro d7
            simp only [d12, d13, d7]
            exact gcase_skip (by first | decide | simp) (by first | rfl | trivial)
          case oa15 =>
            intro x U hU
            simp only [depV, One, dstOf, readDst, asBool, VP.is, VP.any, VP.row, VP.ptr, VP.blk, VP.ex, VP.and, VP.of, List.getD_cons_zero, List.getD_cons_succ]
            intro d14
            intro d7
            simp only [d14, d7]
            exact gcase_skip (by first | decide | simp) (by first | rfl | trivial)
          case oa16 =>
            intro x U hU
            simp only [depV, One, dstOf, readDst, asBool, VP.is, VP.any, VP.row, VP.ptr, VP.blk, VP.ex, VP.and, VP.of, List.getD_cons_zero, List.getD_cons_succ]
            intro d15
            intro d7
            simp only [d15, d7]
            exact gcase_skip (by first | decide | simp) (by first | rfl | trivial)
          case oa17 =>
            intro x U hU
            simp only [depV, One, dstOf, readDst, asBool, VP.is, VP.any, VP.row, VP.ptr, VP.blk, VP.ex, VP.and, VP.of, List.getD_cons_zero, List.getD_cons_succ]
            intro d11
            intro d16
            intro d7
            simp only [d11, d16, d7]
            exact gcase_skip (by first | decide | simp) (by first | rfl | trivial)
          case oa18 =>
            intro x U hU
            simp only [depV, One, dstOf, readDst, asBool, VP.is, VP.any, VP.row, VP.ptr, VP.blk, VP.ex, VP.and, VP.of, List.getD_cons_zero, List.getD_cons_succ]
            intro d17
            intro d7
            simp only [d17, d7]
            exact gcase_skip (by first | decide | simp) (by first | rfl | trivial)
          case oa19 =>
            intro x U hU
            simp only [depV, One, dstOf, readDst, asBool, VP.is, VP.any, VP.row, VP.ptr, VP.blk, VP.ex, VP.and, VP.of, List.getD_cons_zero, List.getD_cons_succ]
            intro d18
            intro d7
            simp only [d18, d7]
            exact gcase_skip (by first | decide | simp) (by first | rfl | trivial)
          case oa20 =>
            intro x U hU
            simp only [depV, One, dstOf, readDst, asBool, VP.is, VP.any, VP.row, VP.ptr, VP.blk, VP.ex, VP.and, VP.of, List.getD_cons_zero, List.getD_cons_succ]
            intro d7
            intro d19
            simp only [d7, d19]
            go_wp2_with (fail)
            refine done_mk ?_ rfl (Ext.refl _)
            rfl
          case fina =>
            intro x U hU
            simp only [allV, depV, One, dstOf, readDst, asBool, VP.is, VP.any, VP.row, VP.ptr, VP.blk, VP.ex, VP.and, VP.of, List.getD_cons_zero, List.getD_cons_succ]
            intro d0
            intro d1
            intro d2
            intro d3
            intro d4
            intro d5
            intro d6
            intro d7
            intro d8
            intro d9
            intro d10
            intro d11
            intro d12
            intro d13
            intro d14
            intro d15
            intro d16
            intro d17
            intro d18
            intro d19
            intro d20
            simp only [d0, d1, d2, d3, d4, d5, d6, d7, d8, d9, d10, d11, d12, d13, d14, d15, d16, d17, d18, d19, d20]
            clear d0 d1 d2 d3 d4 d5 d6 d7 d8 d9 d10 d11 d12 d13 d14 d15 d16 d17 d18 d19 d20
            go_wp2
            go_roundw
            case rel => exact ⟨k + 1, L, cl, by omega, by go_num, by rw [HS.out], by rw [HS.out]; exact own_ext HO.out hU, HY.out.trans hU⟩
            case measure => simp [intOf]; omega
        | true =>
          cases rd with
          | false =>
            simp only [Bool.and_false, Bool.false_and, Bool.false_eq_true, if_false, List.append_nil] at HS
            go_wp2_with fail
            refine wp_region_mono rfl [.is ?vb0, .is ?vb1, .is ?vb2, .is (.bool true), .is (.bool true), .is (.bool false), .is (.bool false), .is (.bool false), .is undef, .is undef, .is undef, .is undef, .is undef, .is undef, .is undef, .is undef, .is undef, .is undef, .is undef, .is undef, .is (.bool false)] (by kernel_rfl) (by kernel_rfl) ?Ab ?hAb ⟨?ob0, ?ob1, ?ob2, ?ob3, ?ob4, ?ob5, ?ob6, ?ob7, ?ob8, ?ob9, ?ob10, ?ob11, ?ob12, ?ob13, ?ob14, ?ob15, ?ob16, ?ob17, ?ob18, ?ob19, ?ob20, trivial⟩ ?finb
            case hAb => (intro x; simp only [fillOps, Act.put, List.setIfInBounds_toArray, List.set_cons_zero, List.set_cons_succ, Nat.reduceAdd]; rfl)
            case ob0 =>
              intro x U hU
              simp only [depV, One, dstOf, readDst, asBool, VP.is, VP.any, VP.row, VP.ptr, VP.blk, VP.ex, VP.and, VP.of, List.getD_cons_zero, List.getD_cons_succ]
              go_wp2_with (fail)
              refine done_mk ?_ rfl (Ext.refl _)
              rfl
            case ob1 =>
              intro x U hU
              simp only [depV, One, dstOf, readDst, asBool, VP.is, VP.any, VP.row, VP.ptr, VP.blk, VP.ex, VP.and, VP.of, List.getD_cons_zero, List.getD_cons_succ]
              go_wp2_with (fail)
              refine done_mk ?_ rfl (Ext.refl _)
              rfl
            case ob2 =>
              intro x U hU
              simp only [depV, One, dstOf, readDst, asBool, VP.is, VP.any, VP.row, VP.ptr, VP.blk, VP.ex, VP.and, VP.of, List.getD_cons_zero, List.getD_cons_succ]
              intro d0
              intro d1
              simp only [d0, d1]
              go_wp2_with (fail)
              refine done_mk ?_ rfl (Ext.refl _)
              rfl
            case ob3 =>
              intro x U hU
              simp only [depV, One, dstOf, readDst, asBool, VP.is, VP.any, VP.row, VP.ptr, VP.blk, VP.ex, VP.and, VP.of, List.getD_cons_zero, List.getD_cons_succ]
              intro d2
              simp only [d2]
              have h0 := hU.cell HcR.out
              go_wp2_with (fail)
              refine done_mk ?_ rfl (Ext.refl _)
              rfl
            case ob4 =>
              intro x U hU
              simp only [depV, One, dstOf, readDst, asBool, VP.is, VP.any, VP.row, VP.ptr, VP.blk, VP.ex, VP.and, VP.of, List.getD_cons_zero, List.getD_cons_succ]
              intro d3
              simp only [d3]
              go_wp2_with (fail)
              refine done_mk ?_ rfl (Ext.refl _)
              rfl
            case ob5 =>
              intro x U hU
              simp only [depV, One, dstOf, readDst, asBool, VP.is, VP.any, VP.row, VP.ptr, VP.blk, VP.ex, VP.and, VP.of, List.getD_cons_zero, List.getD_cons_succ]
              intro d4
              simp only [d4]
              refine gcase_run (by first | rfl | simp) ?_
              go_wp2_with (fail)
              refine done_mk ?_ rfl (Ext.refl _)
              rfl
            case ob6 =>
              intro x U hU
              simp only [depV, One, dstOf, readDst, asBool, VP.is, VP.any, VP.row, VP.ptr, VP.blk, VP.ex, VP.and, VP.of, List.getD_cons_zero, List.getD_cons_succ]
              intro d4
              intro d5
              simp only [d4, d5]
              go_wp2_with (fail)
              refine done_mk ?_ rfl (Ext.refl _)
              rfl
            case ob7 =>
              intro x U hU
              simp only [depV, One, dstOf, readDst, asBool, VP.is, VP.any, VP.row, VP.ptr, VP.blk, VP.ex, VP.and, VP.of, List.getD_cons_zero, List.getD_cons_succ]
              intro d6
              simp only [d6]
              go_wp2_with (fail)
              refine done_mk ?_ rfl (Ext.refl _)
              rfl
            case ob8 =>
              intro x U hU
              simp only [depV, One, dstOf, readDst, asBool, VP.is, VP.any, VP.row, VP.ptr, VP.blk, VP.ex, VP.and, VP.of, List.getD_cons_zero, List.getD_cons_succ]
              intro d7
              simp only [d7]
              exact gcase_skip (by first | decide | simp) (by first | rfl | trivial)
            case ob9 =>
              intro x U hU
              simp only [depV, One, dstOf, readDst, asBool, VP.is, VP.any, VP.row, VP.ptr, VP.blk, VP.ex, VP.and, VP.of, List.getD_cons_zero, List.getD_cons_succ]
              intro d7
              simp only [d7]
              exact gcase_skip (by first | decide | simp) (by first | rfl | trivial)
            case ob10 =>
              intro x U hU
              simp only [depV, One, dstOf, readDst, asBool, VP.is, VP.any, VP.row, VP.ptr, VP.blk, VP.ex, VP.and, VP.of, List.getD_cons_zero, List.getD_cons_succ]
              intro d8
              intro d9
              intro d7
              simp only [d8, d9, d7]
              exact gcase_skip (by first | decide | simp) (by first | rfl | trivial)
            case ob11 =>
              intro x U hU
              simp only [depV, One, dstOf, readDst, asBool, VP.is, VP.any, VP.row, VP.ptr, VP.blk, VP.ex, VP.and, VP.of, List.getD_cons_zero, List.getD_cons_succ]
              intro d10
              intro d7
              simp only [d10, d7]
              exact gcase_skip (by first | decide | simp) (by first | rfl | trivial)
            case ob12 =>
              intro x U hU
              simp only [depV, One, dstOf, readDst, asBool, VP.is, VP.any, VP.row, VP.ptr, VP.blk, VP.ex, VP.and, VP.of, List.getD_cons_zero, List.getD_cons_succ]
              intro d7
              simp only [d7]
              exact gcase_skip (by first | decide | simp) (by first | rfl | trivial)
            case ob13 =>
              intro x U hU
              simp only [depV, One, dstOf, readDst, asBool, VP.is, VP.any, VP.row, VP.ptr, VP.blk, VP.ex, VP.and, VP.of, List.getD_cons_zero, List.getD_cons_succ]
              intro d7
              simp only [d7]
              exact gcase_skip (by first | decide | simp) (by first | rfl | trivial)
            case ob14 =>
              intro x U hU
              simp only [depV, One, dstOf, readDst, asBool, VP.is, VP.any, VP.row, VP.ptr, VP.blk, VP.ex, VP.and, VP.of, List.getD_cons_zero, List.getD_cons_succ]
              intro d12
              intro d13
              intro d7
              simp only [d12, d13, d7]
              exact gcase_skip (by first | decide | simp) (by first | rfl | trivial)
            case ob15 =>
              intro x U hU
              simp only [depV, One, dstOf, readDst, asBool, VP.is, VP.any, VP.row, VP.ptr, VP.blk, VP.ex, VP.and, VP.of, List.getD_cons_zero, List.getD_cons_succ]
              intro d14
              intro d7
              simp only [d14, d7]
              exact gcase_skip (by first | decide | simp) (by first | rfl | trivial)
            case ob16 =>
              intro x U hU
              simp only [depV, One, dstOf, readDst, asBool, VP.is, VP.any, VP.row, VP.ptr, VP.blk, VP.ex, VP.and, VP.of, List.getD_cons_zero, List.getD_cons_succ]
              intro d15
              intro d7
              simp only [d15, d7]
              exact gcase_skip (by first | decide | simp) (by first | rfl | trivial)
            case ob17 =>
              intro x U hU
              simp only [depV, One, dstOf, readDst, asBool, VP.is, VP.any, VP.row, VP.ptr, VP.blk, VP.ex, VP.and, VP.of, List.getD_cons_zero, List.getD_cons_succ]
              intro d11
              intro d16
              intro d7
              simp only [d11, d16, d7]
              exact gcase_skip (by first | decide | simp) (by first | rfl | trivial)
            case ob18 =>
              intro x U hU
              simp only [depV, One, dstOf, readDst, asBool, VP.is, VP.any, VP.row, VP.ptr, VP.blk, VP.ex, VP.and, VP.of, List.getD_cons_zero, List.getD_cons_succ]
              intro d17
              intro d7
              simp only [d17, d7]
              exact gcase_skip (by first | decide | simp) (by first | rfl | trivial)
            case ob19 =>
              intro x U hU
              simp only [depV, One, dstOf, readDst, asBool, VP.is, VP.any, VP.row, VP.ptr, VP.blk, VP.ex, VP.and, VP.of, List.getD_cons_zero, List.getD_cons_succ]
              intro d18
              intro d7
              simp only [d18, d7]
              exact gcase_skip (by first | decide | simp) (by first | rfl | trivial)
            case ob20 =>
              intro x U hU
              simp only [depV, One, dstOf, readDst, asBool, VP.is, VP.any, VP.row, VP.ptr, VP.blk, VP.ex, VP.and, VP.of, List.getD_cons_zero, List.getD_cons_succ]
              intro d7
              intro d19
              simp only [d7, d19]
              go_wp2_with (fail)
              refine done_mk ?_ rfl (Ext.refl _)
              rfl
            case finb =>
              intro x U hU
              simp only [allV, depV, One, dstOf, readDst, asBool, VP.is, VP.any, VP.row, VP.ptr, VP.blk, VP.ex, VP.and, VP.of, List.getD_cons_zero, List.getD_cons_succ]
              intro d0
              intro d1
              intro d2
              intro d3
              intro d4
              intro d5
              intro d6
              intro d7
              intro d8
              intro d9
              intro d10
              intro d11
              intro d12
              intro d13
              intro d14
              intro d15
              intro d16
              intro d17
              intro d18
              intro d19
              intro d20
              simp only [d0, d1, d2, d3, d4, d5, d6, d7, d8, d9, d10, d11, d12, d13, d14, d15, d16, d17, d18, d19, d20]
              clear d0 d1 d2 d3 d4 d5 d6 d7 d8 d9 d10 d11 d12 d13 d14 d15 d16 d17 d18 d19 d20
              go_wp2
              go_roundw
              case rel => exact ⟨k + 1, L, cl, by omega, by go_num, by rw [HS.out], by rw [HS.out]; exact own_ext HO.out hU, HY.out.trans hU⟩
              case measure => simp [intOf]; omega
          | true =>
            have hk16 := HK.out rfl
            simp only [Bool.and_self, Bool.true_and] at HS
            go_wp2_with fail
            refine wp_region_mono rfl [.is ?vc0, .is ?vc1, .is ?vc2, .is (.bool true), .is (.bool true), .is (.bool true), .is (.bool true), .is (.bool true), .is ?vc8, .is ?vc9, .is ?vc10, .is (.int .u16 xx), .is ?vc12, .is ?vc13, .is ?vc14, .is ?vc15, .is (.int .u32 kk), .is (.int .u16 ((xx : Int) / 2 ^ kk.toNat)), .is (.int .u16 ((xx : Int) / 2 ^ kk.toNat % 2)), .is (.bool ((xx : Int) / 2 ^ kk.toNat % 2 == 0)), .is (.bool ((xx : Int) / 2 ^ kk.toNat % 2 == 0))] (by kernel_rfl) (by kernel_rfl) ?Ac ?hAc ⟨?oc0, ?oc1, ?oc2, ?oc3, ?oc4, ?oc5, ?oc6, ?oc7, ?oc8, ?oc9, ?oc10, ?oc11, ?oc12, ?oc13, ?oc14, ?oc15, ?oc16, ?oc17, ?oc18, ?oc19, ?oc20, trivial⟩ ?finc
            case hAc => (intro x; simp only [fillOps, Act.put, List.setIfInBounds_toArray, List.set_cons_zero, List.set_cons_succ, Nat.reduceAdd]; rfl)
            case oc0 =>
              intro x U hU
              simp only [depV, One, dstOf, readDst, asBool, VP.is, VP.any, VP.row, VP.ptr, VP.blk, VP.ex, VP.and, VP.of, List.getD_cons_zero, List.getD_cons_succ]
              go_wp2_with (fail)
              refine done_mk ?_ rfl (Ext.refl _)
              rfl
            case oc1 =>
              intro x U hU
              simp only [depV, One, dstOf, readDst, asBool, VP.is, VP.any, VP.row, VP.ptr, VP.blk, VP.ex, VP.and, VP.of, List.getD_cons_zero, List.getD_cons_succ]
              go_wp2_with (fail)
              refine done_mk ?_ rfl (Ext.refl _)
              rfl
            case oc2 =>
              intro x U hU
              simp only [depV, One, dstOf, readDst, asBool, VP.is, VP.any, VP.row, VP.ptr, VP.blk, VP.ex, VP.and, VP.of, List.getD_cons_zero, List.getD_cons_succ]
              intro d0
              intro d1
              simp only [d0, d1]
              go_wp2_with (fail)
              refine done_mk ?_ rfl (Ext.refl _)
              rfl
            case oc3 =>
              intro x U hU
              simp only [depV, One, dstOf, readDst, asBool, VP.is, VP.any, VP.row, VP.ptr, VP.blk, VP.ex, VP.and, VP.of, List.getD_cons_zero, List.getD_cons_succ]
              intro d2
              simp only [d2]
              have h0 := hU.cell HcR.out
              go_wp2_with (fail)
              refine done_mk ?_ rfl (Ext.refl _)
              rfl
            case oc4 =>
              intro x U hU
              simp only [depV, One, dstOf, readDst, asBool, VP.is, VP.any, VP.row, VP.ptr, VP.blk, VP.ex, VP.and, VP.of, List.getD_cons_zero, List.getD_cons_succ]
              intro d3
              simp only [d3]
              go_wp2_with (fail)
              refine done_mk ?_ rfl (Ext.refl _)
              rfl
            case oc5 =>
              intro x U hU
              simp only [depV, One, dstOf, readDst, asBool, VP.is, VP.any, VP.row, VP.ptr, VP.blk, VP.ex, VP.and, VP.of, List.getD_cons_zero, List.getD_cons_succ]
              intro d4
              simp only [d4]
              refine gcase_run (by first | rfl | simp) ?_
              go_wp2_with (fail)
              refine done_mk ?_ rfl (Ext.refl _)
              rfl
            case oc6 =>
              intro x U hU
              simp only [depV, One, dstOf, readDst, asBool, VP.is, VP.any, VP.row, VP.ptr, VP.blk, VP.ex, VP.and, VP.of, List.getD_cons_zero, List.getD_cons_succ]
              intro d4
              intro d5
              simp only [d4, d5]
              go_wp2_with (fail)
              refine done_mk ?_ rfl (Ext.refl _)
              rfl
            case oc7 =>
              intro x U hU
              simp only [depV, One, dstOf, readDst, asBool, VP.is, VP.any, VP.row, VP.ptr, VP.blk, VP.ex, VP.and, VP.of, List.getD_cons_zero, List.getD_cons_succ]
              intro d6
              simp only [d6]
              go_wp2_with (fail)
              refine done_mk ?_ rfl (Ext.refl _)
              rfl
            case oc8 =>
              intro x U hU
              simp only [depV, One, dstOf, readDst, asBool, VP.is, VP.any, VP.row, VP.ptr, VP.blk, VP.ex, VP.and, VP.of, List.getD_cons_zero, List.getD_cons_succ]
              intro d7
              simp only [d7]
              refine gcase_run (by first | rfl | simp) ?_
              go_wp2_with (fail)
              refine done_mk ?_ rfl (Ext.refl _)
              rfl
            case oc9 =>
              intro x U hU
              simp only [depV, One, dstOf, readDst, asBool, VP.is, VP.any, VP.row, VP.ptr, VP.blk, VP.ex, VP.and, VP.of, List.getD_cons_zero, List.getD_cons_succ]
              intro d7
              simp only [d7]
              refine gcase_run (by first | rfl | simp) ?_
              go_wp2_with (fail)
              refine done_mk ?_ rfl (Ext.refl _)
              rfl
            case oc10 =>
              intro x U hU
              simp only [depV, One, dstOf, readDst, asBool, VP.is, VP.any, VP.row, VP.ptr, VP.blk, VP.ex, VP.and, VP.of, List.getD_cons_zero, List.getD_cons_succ]
              intro d8
              intro d9
              intro d7
              simp only [d8, d9, d7]
              refine gcase_run (by first | rfl | simp) ?_
              go_wp2_with (fail)
              refine done_mk ?_ rfl (Ext.refl _)
              rfl
            case oc11 =>
              intro x U hU
              simp only [depV, One, dstOf, readDst, asBool, VP.is, VP.any, VP.row, VP.ptr, VP.blk, VP.ex, VP.and, VP.of, List.getD_cons_zero, List.getD_cons_succ]
              intro d10
              intro d7
              simp only [d10, d7]
              refine gcase_run (by first | rfl | simp) ?_
              have h0 := hU.cell HcS.out
              go_wp2_with (fail)
              refine done_mk ?_ rfl (Ext.refl _)
              rfl
            case oc12 =>
              intro x U hU
              simp only [depV, One, dstOf, readDst, asBool, VP.is, VP.any, VP.row, VP.ptr, VP.blk, VP.ex, VP.and, VP.of, List.getD_cons_zero, List.getD_cons_succ]
              intro d7
              simp only [d7]
              refine gcase_run (by first | rfl | simp) ?_
              go_wp2_with (fail)
              refine done_mk ?_ rfl (Ext.refl _)
              rfl
            case oc13 =>
              intro x U hU
              simp only [depV, One, dstOf, readDst, asBool, VP.is, VP.any, VP.row, VP.ptr, VP.blk, VP.ex, VP.and, VP.of, List.getD_cons_zero, List.getD_cons_succ]
              intro d7
              simp only [d7]
              refine gcase_run (by first | rfl | simp) ?_
              go_wp2_with (fail)
              refine done_mk ?_ rfl (Ext.refl _)
              rfl
            case oc14 =>
              intro x U hU
              simp only [depV, One, dstOf, readDst, asBool, VP.is, VP.any, VP.row, VP.ptr, VP.blk, VP.ex, VP.and, VP.of, List.getD_cons_zero, List.getD_cons_succ]
              intro d12
              intro d13
              intro d7
              simp only [d12, d13, d7]
              refine gcase_run (by first | rfl | simp) ?_
              go_wp2_with (fail)
              refine done_mk ?_ rfl (Ext.refl _)
              rfl
            case oc15 =>
              intro x U hU
              simp only [depV, One, dstOf, readDst, asBool, VP.is, VP.any, VP.row, VP.ptr, VP.blk, VP.ex, VP.and, VP.of, List.getD_cons_zero, List.getD_cons_succ]
              intro d14
              intro d7
              simp only [d14, d7]
              refine gcase_run (by first | rfl | simp) ?_
              go_wp2_with (fail)
              refine done_mk ?_ rfl (Ext.refl _)
              rfl
            case oc16 =>
              intro x U hU
              simp only [depV, One, dstOf, readDst, asBool, VP.is, VP.any, VP.row, VP.ptr, VP.blk, VP.ex, VP.and, VP.of, List.getD_cons_zero, List.getD_cons_succ]
              intro d15
              intro d7
              simp only [d15, d7]
              refine gcase_run (by first | rfl | simp) ?_
              have h0 := hU.cell Hq3.out
              go_wp2_with (fail)
              refine done_mk ?_ rfl (Ext.refl _)
              rfl
            case oc17 =>
              intro x U hU
              simp only [depV, One, dstOf, readDst, asBool, VP.is, VP.any, VP.row, VP.ptr, VP.blk, VP.ex, VP.and, VP.of, List.getD_cons_zero, List.getD_cons_succ]
              intro d11
              intro d16
              intro d7
              simp only [d11, d16, d7]
              refine gcase_run (by first | rfl | simp) ?_
              go_wp2_with (fail)
              refine done_mk ?_ rfl (Ext.refl _)
              rfl
            case oc18 =>
              intro x U hU
              simp only [depV, One, dstOf, readDst, asBool, VP.is, VP.any, VP.row, VP.ptr, VP.blk, VP.ex, VP.and, VP.of, List.getD_cons_zero, List.getD_cons_succ]
              intro d17
              intro d7
              simp only [d17, d7]
              refine gcase_run (by first | rfl | simp) ?_
              go_wp2_with (fail)
              refine done_mk ?_ rfl (Ext.refl _)
              rfl
            case oc19 =>
              intro x U hU
              simp only [depV, One, dstOf, readDst, asBool, VP.is, VP.any, VP.row, VP.ptr, VP.blk, VP.ex, VP.and, VP.of, List.getD_cons_zero, List.getD_cons_succ]
              intro d18
              intro d7
              simp only [d18, d7]
              refine gcase_run (by first | rfl | simp) ?_
              go_wp2_with (fail)
              refine done_mk ?_ rfl (Ext.refl _)
              rfl
            case oc20 =>
              intro x U hU
              simp only [depV, One, dstOf, readDst, asBool, VP.is, VP.any, VP.row, VP.ptr, VP.blk, VP.ex, VP.and, VP.of, List.getD_cons_zero, List.getD_cons_succ]
              intro d7
              intro d19
              simp only [d7, d19]
              go_wp2_with (fail)
              refine done_mk ?_ rfl (Ext.refl _)
              rfl
            case finc =>
              intro x U hU
              simp only [allV, depV, One, dstOf, readDst, asBool, VP.is, VP.any, VP.row, VP.ptr, VP.blk, VP.ex, VP.and, VP.of, List.getD_cons_zero, List.getD_cons_succ]
              intro d0
              intro d1
              intro d2
              intro d3
              intro d4
              intro d5
              intro d6
              intro d7
              intro d8
              intro d9
              intro d10
              intro d11
              intro d12
              intro d13
              intro d14
              intro d15
              intro d16
              intro d17
              intro d18
              intro d19
              intro d20
              simp only [d0, d1, d2, d3, d4, d5, d6, d7, d8, d9, d10, d11, d12, d13, d14, d15, d16, d17, d18, d19, d20]
              clear d0 d1 d2 d3 d4 d5 d6 d7 d8 d9 d10 d11 d12 d13 d14 d15 d16 d17 d18 d19 d20
              have ho1 := own_ext HO.out hU
              have hx3 := HY.out.trans hU
              generalize ((xx : Int) / 2 ^ kk.toNat % 2 == 0) = z at *
              clear HY HO hU hx HcR HcS Hq3
              cases z with
              | false =>
                simp only [Bool.false_eq_true, if_false, List.append_nil] at HS
                go_wp2
                go_roundw
                case rel => exact ⟨k + 1, L, cl, by omega, by go_num, by rw [HS.out], by rw [HS.out]; exact ho1, hx3⟩
                case measure => simp [intOf]; omega
              | true =>
                simp only [if_true] at HS
                have hb1 : un.length + 1 ≤ maxLen := by unfold maxLen; omega
                have hb2 : (un.length + 1) * 8 ≤ 140737488355328 := by omega
                obtain ⟨i0, hi, hz0, hz1, hz2'⟩ := info_parts info_int
                have HI := Lib.hid hi; have HZ0 := Lib.hid hz0; have HZ1 := Lib.hid hz1; have HZ2 := Lib.hid hz2'
                clear hi hz0 hz1 hz2'
                have hz3 : w2.heap.size ≤ (U.alloc (.cells #[.int .i64 k] 3)).heap.size := by have := hx3.size; simp; omega
                have hr3 := ho1.alloc (.cells #[.int .i64 k] 3)
                have hx4 := hx3.alloc (.cells #[.int .i64 k] 3)
                have hxa := (Ext.refl U).alloc (.cells #[.int .i64 k] 3)
                go_wp2_with (refine wpList_append_own_at _ rfl (.tmp 61) (.tmp 63) 35 rfl w2.heap.size 3 i0 _ 1 8 Try.underlying35 HI.out HZ0.out HZ1.out HZ2.out rfl (by decide) _ _ _ rfl hr3 ⟨U.heap.size, 0, none⟩ 1 1 [.int .i64 k] rfl rfl (fun j u hj => (InM.ofBlk (Blk.new_ rfl) rfl : InM _ (some ⟨U.heap.size, 0, none⟩) [Value.int .i64 k]).add hj) (by simp [Value.oneCell']) hb1 hb2 hz3 ?_; intro v' w5 hown' hgrow _ hwh; obtain ⟨g', cap', rfl⟩ := ownsRow_succ hown')
                go_roundw
                case rel =>
                  have hx5 : Ext w2 w5 := hx4.app hr3 (Nat.le_refl _) hgrow
                  exact ⟨k + 1, some ⟨g', 0, none⟩, cap', by omega, by go_num, by rw [HS.out]; simp, by rw [HS.out, List.length_append, nums_append]; exact hown', hx5⟩
                case measure => simp [intOf]; omega
    · obtain rfl : k = sl.length := by omega
      go_wp2_with fail
      go_ret
      exact ⟨L, cl, rfl, own_lower ho hx0.size, hx⟩
end Go.Proofs.Ytplpffcolcjboaa
