import Derived.Test.YtlicndonhmcmmaaAwake2
import Derived.Test.YtlicndonhmcmmaaPrgLaw
namespace Go.Proofs.Ytlicndonhmcmmaa
open Go.RowKit Go.ChangeShapes Go.WideShapes
set_option linter.unusedVariables false
set_option linter.unusedSimpArgs false

set_option maxHeartbeats 2000000 in
set_option maxRecDepth 100000 in
theorem insnBack_walk (A : Option Addr) (n c : Nat) (ps : List Ins) (hp : ps.length = n) (hm : n ≤ c ∧ c ≤ maxLen) (hok : ∀ i ∈ ps, i.ok) {W : World} (hM : InM W A (pc ps))
    (A' : Option Addr) (n' c' : Nat) (xs : List Int) (hn : xs.length = n') (hm' : n' ≤ c' ∧ c' ≤ maxLen) (hB : Byt xs) (hM' : InM W A' (nums .u8 xs)) (_ : World) :
    Calls Try.prog 19 #[.slice A n c, .slice A' n' c'] W fun e w' => e = .returned (.bool true) ∧ Ext W w' := by
  have HA := Lib.hid (fun W => awake02 W)
  have hx := Ext.refl W
  by_cases big : 300 < n
  · have d1 : (300 : Int) < n := by omega
    clear hp hm hok hM hn hm' hB hM'
    go_enter Try.func19, Try.ntmps19
    go_wp2_with fail
    refine (HA.out _).mono ?_
    rintro e w1 ⟨rfl, hx'⟩
    replace hx := Ext.trans (by first | exact hx | exact hx.alloc _ | exact (hx.alloc _).alloc _ | exact hx.drew) hx'
    clear hx'
    go_wp2_with fail
    go_ret
    exact ⟨rfl, hx⟩
  by_cases big2 : 2400 < n'
  · have d1 : ¬ (300 : Int) < n := by omega
    have d2 : (2400 : Int) < n' := by omega
    clear hp hm hok hM hn hm' hB hM'
    go_enter Try.func19, Try.ntmps19
    go_wp2_with fail
    refine (HA.out _).mono ?_
    rintro e w1 ⟨rfl, hx'⟩
    replace hx := Ext.trans (by first | exact hx | exact hx.alloc _ | exact (hx.alloc _).alloc _ | exact hx.drew) hx'
    clear hx'
    go_wp2_with fail
    go_ret
    exact ⟨rfl, hx⟩
  have b1 : n ≤ 300 := by omega
  have b2 : n' ≤ 2400 := by omega
  have d1 : ¬ (300 : Int) < n := by omega
  have d2 : ¬ (2400 : Int) < n' := by omega
  have d3 : ((8 * n : Nat) : Int) = 8 * (n : Int) := by omega
  have hc' : c' ≤ 9223372036854775807 := by have := hm'.2; unfold maxLen at this; omega
  have H1 := Lib.hid (fun W h => printI A n c ps W hp (by omega) hok h)
  have H2 := Lib.hid (fun Q q W (hq : 8 * n ≤ q ∧ q ≤ 9223372036854775807) h => parseI Q (8 * n) q (pb ps) W (by omega) hq (by rw [pb_length]; omega) (pb_byt ps hok) h)
  rw [show pm (8 * n) = n from by unfold pm; rw [if_pos (by omega)]; omega, show pe (8 * n) = 0 from by unfold pe; rw [if_pos (by omega)]] at H2
  have e0 : dp (pb ps) n = ps := by rw [← hp]; exact dp_pb ps hok
  rw [e0] at H2
  have H3 := Lib.hid (fun Q q W h k => sameI A Q n c n q ps ps W hp hp (by omega) h k)
  rw [show decide (ps = ps) = true from decide_eq_true rfl] at H3
  have H4 := Lib.hid (fun W h => parseI A' n' c' xs W (by omega) ⟨hm'.1, hc'⟩ hn hB h)
  have H5 := Lib.hid (fun (h8 : n' % 8 = 0) Q q W h => printI Q (n' / 8) q (dp xs (n' / 8)) W (dp_length _ _) (by omega) (dp_ok hB _) h)
  have H6 := Lib.hid (fun Q q W h k => keep (wordsSame Q A' n' q n' c' xs xs W hn hn hB hB h k))
  rw [show decide (xs = xs) = true from decide_eq_true rfl] at H6
  have E5 := Lib.hid (fun h8 : n' % 8 = 0 => pb_dp xs hB (n' / 8) (by omega))
  have HM := Lib.hid hM
  have HM' := Lib.hid hM'
  clear e0 hp hm hok hM hn hm' hB hM' hc' big big2
  by_cases h8 : n' % 8 = 0
  · rw [show pm n' = n' / 8 from by unfold pm; rw [if_pos h8], show pe n' = 0 from by unfold pe; rw [if_pos h8]] at H4
    have H5 := Lib.hid (H5.out h8)
    rw [E5.out h8] at H5
    clear E5
    obtain ⟨m, rfl⟩ : ∃ m, n' = 8 * m := ⟨n' / 8, by omega⟩
    rw [show 8 * m / 8 = m from by omega] at H4 H5
    generalize dp xs m = qs at *
    clear h8
    go_enter Try.func19, Try.ntmps19
    go_wp2_with fail
    refine (HA.out _).mono ?_
    rintro e w1 ⟨rfl, hx'⟩
    replace hx := Ext.trans (by first | exact hx | exact hx.alloc _ | exact (hx.alloc _).alloc _ | exact hx.drew) hx'
    clear hx'
    go_wp2_with fail
    refine (H1.out _ (HM.out.ext hx)).mono ?_
    rintro e w2 ⟨Q, q, rfl, ho2, hx'⟩
    replace hx := Ext.trans (by first | exact hx | exact hx.alloc _ | exact (hx.alloc _).alloc _ | exact hx.drew) hx'
    clear hx'
    have hq : 8 * n ≤ q ∧ q ≤ 9223372036854775807 := own_cap ho2
    have hm2 := own_inM ho2
    clear ho2
    have Hq := Lib.hid hq
    clear hq
    go_wp2_with fail
    refine (H2.out _ _ _ Hq.out hm2).mono ?_
    rintro e w3 ⟨P, p, rfl, ho3, hx'⟩
    replace hx := Ext.trans (by first | exact hx | exact hx.alloc _ | exact (hx.alloc _).alloc _ | exact hx.drew) hx'
    clear hx'
    go_wp2_with fail
    refine (H3.out _ _ _ (HM.out.ext hx) (own_inM ho3)).mono ?_
    rintro e w4 ⟨rfl, hx'⟩
    replace hx := Ext.trans (by first | exact hx | exact hx.alloc _ | exact (hx.alloc _).alloc _ | exact hx.drew) hx'
    clear hx'
    go_wp2_with fail
    refine (H4.out _ (HM'.out.ext hx)).mono ?_
    rintro e w5 ⟨R, r, rfl, ho5, hx'⟩
    replace hx := Ext.trans (by first | exact hx | exact hx.alloc _ | exact (hx.alloc _).alloc _ | exact hx.drew) hx'
    clear hx'
    go_wp2_with fail
    refine (H5.out _ _ _ (own_inM ho5)).mono ?_
    rintro e w6 ⟨S, s, rfl, ho6, hx'⟩
    replace hx := Ext.trans (by first | exact hx | exact hx.alloc _ | exact (hx.alloc _).alloc _ | exact hx.drew) hx'
    clear hx'
    go_wp2_with fail
    refine (H6.out _ _ _ (own_inM ho6) (HM'.out.ext hx)).mono ?_
    rintro e w7 ⟨rfl, hx'⟩
    replace hx := Ext.trans (by first | exact hx | exact hx.alloc _ | exact (hx.alloc _).alloc _ | exact hx.drew) hx'
    clear hx'
    go_wp2_with fail
    go_ret
    exact ⟨rfl, hx⟩
  · rw [show pm n' = 0 from by unfold pm; rw [if_neg h8], show pe n' = 20 from by unfold pe; rw [if_neg h8]] at H4
    have d4 : ((n' : Int) % 8 != 0) = true := by simp; omega
    clear H5 H6 E5 h8
    go_enter Try.func19, Try.ntmps19
    go_wp2_with fail
    refine (HA.out _).mono ?_
    rintro e w1 ⟨rfl, hx'⟩
    replace hx := Ext.trans (by first | exact hx | exact hx.alloc _ | exact (hx.alloc _).alloc _ | exact hx.drew) hx'
    clear hx'
    go_wp2_with fail
    refine (H1.out _ (HM.out.ext hx)).mono ?_
    rintro e w2 ⟨Q, q, rfl, ho2, hx'⟩
    replace hx := Ext.trans (by first | exact hx | exact hx.alloc _ | exact (hx.alloc _).alloc _ | exact hx.drew) hx'
    clear hx'
    have hq : 8 * n ≤ q ∧ q ≤ 9223372036854775807 := own_cap ho2
    have hm2 := own_inM ho2
    clear ho2
    have Hq := Lib.hid hq
    clear hq
    go_wp2_with fail
    refine (H2.out _ _ _ Hq.out hm2).mono ?_
    rintro e w3 ⟨P, p, rfl, ho3, hx'⟩
    replace hx := Ext.trans (by first | exact hx | exact hx.alloc _ | exact (hx.alloc _).alloc _ | exact hx.drew) hx'
    clear hx'
    go_wp2_with fail
    refine (H3.out _ _ _ (HM.out.ext hx) (own_inM ho3)).mono ?_
    rintro e w4 ⟨rfl, hx'⟩
    replace hx := Ext.trans (by first | exact hx | exact hx.alloc _ | exact (hx.alloc _).alloc _ | exact hx.drew) hx'
    clear hx'
    go_wp2_with fail
    refine (H4.out _ (HM'.out.ext hx)).mono ?_
    rintro e w5 ⟨R, r, rfl, ho5, hx'⟩
    replace hx := Ext.trans (by first | exact hx | exact hx.alloc _ | exact (hx.alloc _).alloc _ | exact hx.drew) hx'
    clear hx'
    go_wp2_with fail
    go_ret
    exact ⟨rfl, hx⟩
end Go.Proofs.Ytlicndonhmcmmaa
