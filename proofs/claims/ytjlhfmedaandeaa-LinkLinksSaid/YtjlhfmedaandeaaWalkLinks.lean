import Derived.Test.YtjlhfmedaandeaaLink1
import Derived.Test.YtjlhfmedaandeaaLref5
import Derived.Test.YtjlhfmedaandeaaSym2
/- The law LinkLinks, walked. -/
namespace Go.Proofs.Ytjlhfmedaandeaa
open Go.RowKit Go.ChangeShapes Go.WideShapes
set_option linter.unusedVariables false
set_option linter.unusedSimpArgs false

theorem blk_setK {w : World} {g : Nat} {t : TypeId} {ps : List Ins} {more : List Value} (h : Blk w g t (pc ps ++ more).toArray) {k : Nat} (hk : k < ps.length) (x : Int) :
    Blk (w.setCell ⟨g, k * 4 + 3, none⟩ (.int .u32 x)) g t (pc (ps.set k { ps[k] with k := x }) ++ more).toArray := by
  have := h.set_ (k * 4 + 3) (.int .u32 x)
  rw [← pc_setK ps k x hk]
  rw [List.setIfInBounds_toArray, List.set_append_left _ _ (by rw [pc_length]; omega)] at this
  exact this
set_option maxHeartbeats 2000000 in
set_option maxRecDepth 100000 in
theorem links_nil (A : Option Addr) (n c : Nat) (ps : List Sy) (w : World) (hn : n ≤ 1500) (hM : InM w A (sc ps)) (E fr : Int)
    (HC : Hid (∀ W, InM W A (sc ps) → Calls Try.prog 17 #[.slice A n c] W fun e w' => ∃ B c', e = .returned (.slice B n c') ∧ w'.ownsRow W.heap.size 32 4 (.slice B n c') n (sc ps) ∧ Ext W w'))
    (HR : Hid (∀ W, InM W A (sc ps) → Calls Try.prog 18 #[.slice A n c] W fun e w' => e = .returned (.tuple #[.slice none 0 0, .int .i64 E]) ∧ Ext W w'))
    (HLL : Hid (∀ B c' W, InM W B (sc ps) → Calls Try.prog 16 #[.slice B n c'] W fun e w' => e = .returned (.tuple #[.slice none 0 0, .int .i64 E]) ∧ Ext W w'))
    (HFF : Hid (∀ B c' W, InM W B (sc ps) → Calls Try.prog 21 #[.slice B n c'] W fun e w' => e = .returned (.int .i64 fr) ∧ Ext W w'))
    (HF2 : Hid (∀ W, InM W A (sc ps) → Calls Try.prog 22 #[.slice A n c] W fun e w' => e = .returned (.int .i64 fr) ∧ Ext W w'))
    (HSS : Hid (∀ B c' W, InM W B (sc ps) → InM W A (sc ps) → Calls Try.prog 20 #[.slice B n c', .slice A n c] W fun e w' => e = .returned (.bool true) ∧ Ext W w')) :
    Calls Try.prog 5 #[.slice A n c] w fun e w' => e = .returned (.bool true) ∧ Ext w w' := by
  have HM := Lib.hid hM
  have HZ := Lib.hid (fun W => refSameI_true none none 0 0 0 0 [] W rfl rfl (by omega) (InM.nil _ _) (InM.nil _ _))
  have d1 : ¬ (1500 : Int) < n := by omega
  have dE : (E != E) = false := by simp
  have dF : (fr == fr) = true := by simp
  clear hM
  go_enter Try.func5, Try.ntmps5
  go_wp2_with fail
  refine (HC.out _ HM.out).mono ?_
  rintro e w1 ⟨B, cB, rfl, ho1, hx1⟩
  have HC1 := Lib.hid (own_inM ho1)
  have HF1 := Lib.hid (HFF.out B cB)
  have HS1 := Lib.hid (HSS.out B cB)
  have HL1 := Lib.hid (HLL.out B cB)
  clear ho1 HFF HSS HLL
  go_wp2_with fail
  refine (HR.out _ (HM.out.ext hx1)).mono ?_
  rintro e w2 ⟨rfl, hx2⟩
  go_wp2_with fail
  go_loopw [6] (fun i wr => ∃ t : Nat, t ≤ 2 ∧ i = .int .i64 t ∧ Ext w1 wr) (fun i _ => 2 - (intOf i).toNat)
  case atStart => exact ⟨0, by omega, rfl, hx2⟩
  case round =>
    clear hx2
    obtain ⟨t, ht, rfl, hx⟩ := hrel
    by_cases hlt : t < 2
    · have hlt2 : (t : Int) < 2 := by omega
      go_wp2_with fail
      refine (HL1.out _ (HC1.out.ext hx)).mono ?_
      rintro e w3 ⟨rfl, hx3⟩
      go_wp2_with fail
      refine (HZ.out _).mono ?_
      rintro e w4 ⟨rfl, hx4⟩
      go_wp2_with fail
      refine (HS1.out _ (HC1.out.ext (hx.trans (hx3.trans hx4))) (HM.out.ext (hx1.trans (hx.trans (hx3.trans hx4))))).mono ?_
      rintro e w5 ⟨rfl, hx5⟩
      have hy := hx.trans (hx3.trans (hx4.trans hx5))
      clear hx3 hx4 hx5
      go_wp2_with fail
      go_loopw [9] (fun i wr => i = .int .i64 0 ∧ Ext w1 wr) (fun i _ => 0)
      case atStart => exact ⟨rfl, hy⟩
      case round =>
        clear hy
        obtain ⟨rfl, hy⟩ := hrel
        go_wp2_with fail
        go_roundw
        case rel => exact ⟨t + 1, by omega, by go_num, hy⟩
        case measure => simp [intOf]; omega
    · obtain rfl : t = 2 := by omega
      go_wp2_with fail
      refine (HF1.out _ (HC1.out.ext hx)).mono ?_
      rintro e w7 ⟨rfl, hx7⟩
      go_wp2_with fail
      refine (HF2.out _ (HM.out.ext (hx1.trans ((hx).trans hx7)))).mono ?_
      rintro e w8 ⟨rfl, hx8⟩
      go_wp2_with fail
      go_ret
      exact ⟨rfl, hx1.trans (((hx).trans hx7).trans hx8)⟩
set_option maxHeartbeats 2000000 in
set_option maxRecDepth 100000 in
theorem links_prog (A : Option Addr) (n c : Nat) (ps : List Sy) (w : World) (hn : n ≤ 1500) (hM : InM w A (sc ps)) (fr : Int) (m : Nat) (hm : m ≤ 4096) (qs : List Ins) (hq : qs.length = m)
    (HC : Hid (∀ W, InM W A (sc ps) → Calls Try.prog 17 #[.slice A n c] W fun e w' => ∃ B c', e = .returned (.slice B n c') ∧ w'.ownsRow W.heap.size 32 4 (.slice B n c') n (sc ps) ∧ Ext W w'))
    (HR : Hid (∀ W, InM W A (sc ps) → Calls Try.prog 18 #[.slice A n c] W fun e w' => ∃ B cv, e = .returned (.tuple #[.slice B m cv, .int .i64 0]) ∧ InM w' B (pc qs) ∧ Ext W w'))
    (HLL : Hid (∀ B c' W, InM W B (sc ps) → Calls Try.prog 16 #[.slice B n c'] W fun e w' => ∃ g cv more, e = .returned (.tuple #[.slice (some ⟨g, 0, none⟩) m cv, .int .i64 0]) ∧ Blk w' g 43 (pc qs ++ more).toArray ∧ W.heap.size ≤ g ∧ Ext W w'))
    (HFF : Hid (∀ B c' W, InM W B (sc ps) → Calls Try.prog 21 #[.slice B n c'] W fun e w' => e = .returned (.int .i64 fr) ∧ Ext W w'))
    (HF2 : Hid (∀ W, InM W A (sc ps) → Calls Try.prog 22 #[.slice A n c] W fun e w' => e = .returned (.int .i64 fr) ∧ Ext W w'))
    (HSS : Hid (∀ B c' W, InM W B (sc ps) → InM W A (sc ps) → Calls Try.prog 20 #[.slice B n c', .slice A n c] W fun e w' => e = .returned (.bool true) ∧ Ext W w')) :
    Calls Try.prog 5 #[.slice A n c] w fun e w' => e = .returned (.bool true) ∧ Ext w w' := by
  have HM := Lib.hid hM
  have HZ := Lib.hid (fun P Q c1 c2 W h k => refSameI_true P Q m c1 m c2 qs W hq rfl (by omega) h k)
  have d1 : ¬ (1500 : Int) < n := by omega
  have dF : (fr == fr) = true := by simp
  have HQ := Lib.hid hq
  clear hM hq
  go_enter Try.func5, Try.ntmps5
  go_wp2_with fail
  refine (HC.out _ HM.out).mono ?_
  rintro e w1 ⟨B, cB, rfl, ho1, hx1⟩
  have HC1 := Lib.hid (own_inM ho1)
  have HF1 := Lib.hid (HFF.out B cB)
  have HS1 := Lib.hid (HSS.out B cB)
  have HL1 := Lib.hid (HLL.out B cB)
  clear ho1 HFF HSS HLL
  go_wp2_with fail
  refine (HR.out _ (HM.out.ext hx1)).mono ?_
  rintro e w2 ⟨Q, cQ, rfl, hQ, hx2⟩
  have HQM := Lib.hid hQ
  clear hQ
  go_wp2_with fail
  go_loopw [6] (fun i wr => ∃ t : Nat, t ≤ 2 ∧ i = .int .i64 t ∧ Ext w2 wr) (fun i _ => 2 - (intOf i).toNat)
  case atStart => exact ⟨0, by omega, rfl, Ext.refl _⟩
  case round =>
    obtain ⟨wo, rfl⟩ : ∃ wo : World, wo = wr := ⟨_, rfl⟩
    obtain ⟨t, ht, rfl, hx⟩ := hrel
    by_cases hlt : t < 2
    · have hlt2 : (t : Int) < 2 := by omega
      go_wp2_with fail
      refine (HL1.out _ (HC1.out.ext (hx2.trans hx))).mono ?_
      rintro e w3 ⟨g, cv, more, rfl, hb3, hg3, hx3⟩
      have hgw : w2.heap.size ≤ g := by have := hx.size; omega
      go_wp2_with fail
      refine (HZ.out _ _ _ _ _ (InM.ofBlk hb3 rfl).prefix_ (HQM.out.ext (hx.trans hx3))).mono ?_
      rintro e w4 ⟨rfl, hx4⟩
      go_wp2_with fail
      refine (HS1.out _ (HC1.out.ext (hx2.trans (hx.trans (hx3.trans hx4)))) (HM.out.ext (hx1.trans (hx2.trans (hx.trans (hx3.trans hx4)))))).mono ?_
      rintro e w5 ⟨rfl, hx5⟩
      have hy := hx.trans (hx3.trans (hx4.trans hx5))
      have hb5 := hb3.ext (hx4.trans hx5)
      clear hx3 hx4 hx5 hb3 hg3
      go_wp2_with fail
      go_loopw [9] (fun i wr => ∃ (k : Nat) (ps' : List Ins), k ≤ m ∧ i = .int .i64 k ∧ ps'.length = m ∧ Ext w2 wr ∧ Blk wr g 43 (pc ps' ++ more).toArray) (fun i _ => m - (intOf i).toNat)
      case atStart => exact ⟨0, qs, by omega, rfl, HQ.out, hy, hb5⟩
      case round =>
        clear hy hb5
        obtain ⟨k, ps', hk, rfl, hl, hy, hb5⟩ := hrel
        by_cases hkm : k < m
        · have hkl : k < ps'.length := by omega
          have hc := (prog_cells (InM.ofBlk hb5 rfl).prefix_ hkl).2.2.2
          have hf := hb5.frozen (k * 4 + 3)
          have HS := Lib.hid (fun x => blk_setK hb5 hkl x)
          have HX := Lib.hid (fun x => Ext.set hy (p := ⟨g, k * 4 + 3, none⟩) hgw (.int .u32 x))
          have k1 : (0 : Int) ≤ k := by omega
          have k2 : (k : Int) < m := by omega
          have k3 : (k : Int) ≤ 4096 := by omega
          generalize ps'[k] = E at *
          obtain ⟨e0, e1, e2, e3⟩ := E
          simp only [Nat.zero_add] at hc
          clear hb5 hy hkl
          go_wp2_with fail
          go_roundw
          case rel => exact ⟨k + 1, _, by omega, by go_num, by rw [List.length_set]; exact hl, HX.out _, HS.out _⟩
          case measure => simp [intOf]; omega
        · obtain rfl : k = m := by omega
          go_wp2_with fail
          go_roundw
          case rel => exact ⟨t + 1, by omega, by go_num, hy⟩
          case measure => simp [intOf]; omega
    · obtain rfl : t = 2 := by omega
      have hz := hx2.trans hx
      go_wp2_with fail
      refine (HF1.out _ (HC1.out.ext hz)).mono ?_
      rintro e w7 ⟨rfl, hx7⟩
      go_wp2_with fail
      refine (HF2.out _ (HM.out.ext (hx1.trans ((hz).trans hx7)))).mono ?_
      rintro e w8 ⟨rfl, hx8⟩
      go_wp2_with fail
      go_ret
      exact ⟨rfl, hx1.trans (((hz).trans hx7).trans hx8)⟩
theorem linkLinks_walk (A : Option Addr) (n c : Nat) (ps : List Sy) (hp : ps.length = n) (hm : n ≤ c ∧ c ≤ maxLen) (hok : ∀ i ∈ ps, i.ok) {w : World} (hM : InM w A (sc ps)) (_ : World) :
    Calls Try.prog 5 #[.slice A n c] w fun e w' => e = .returned (.bool true) ∧ Ext w w' := by
  by_cases big : 1500 < n
  · have d1 : (1500 : Int) < n := by omega
    clear hp hm hok hM
    go_enter Try.func5, Try.ntmps5
    go_wp2_with fail
    go_ret
    exact ⟨rfl, Ext.refl _⟩
  have hn : n ≤ maxLen := by omega
  have HC := Lib.hid (fun W hW => refCopyS A n c ps W hp (by omega) hW)
  have HFF := Lib.hid (fun B c' W hW => linkFar B n c' ps W hp hok hn hW)
  have HF2 := Lib.hid (fun W hW => refFar27 A n c ps W hp hok hn hW)
  have HSS := Lib.hid (fun B c' W hW hV => (show Calls Try.prog 20 #[.slice B n c', .slice A n c] W fun e w' => e = .returned (.bool true) ∧ Ext W w' from by
    have h := refSameS B A n c' n c ps ps W hp hp ⟨by omega, by omega⟩ hW hV
    rwa [decide_eq_true rfl] at h))
  cases hmay : mayL ps with
  | false =>
    exact links_nil A n c ps w (by omega) hM 250 _ HC (Lib.hid (fun W hW => refLinkNo A n c ps W hp hok hn hW hmay)) (Lib.hid (fun B c' W hW => linkNoI B n c' ps W hp hok hn hW hmay)) HFF HF2 HSS
  | true =>
    by_cases hb : 4096 < (lall ps).bk.length
    · exact links_nil A n c ps w (by omega) hM 270 _ HC (Lib.hid (fun W hW => refLinkBig A n c ps W hp hok hW hmay hb)) (Lib.hid (fun B c' W hW => linkBigI B n c' ps W hp hok hW hmay hb)) HFF HF2 HSS
    · exact links_prog A n c ps w (by omega) hM _ (lall ps).bk.length (by omega) (lall ps).bk.reverse List.length_reverse HC (Lib.hid (fun W hW => refLinkYes A n c ps W hp hok hW hmay (by omega))) (Lib.hid (fun B c' W hW => linkYesI B n c' ps W hp hok hW hmay (by omega))) HFF HF2 HSS
end Go.Proofs.Ytjlhfmedaandeaa
