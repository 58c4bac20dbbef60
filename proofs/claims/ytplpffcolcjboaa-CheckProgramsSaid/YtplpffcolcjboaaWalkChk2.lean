import Derived.Test.YtplpffcolcjboaaChk6
/- The law CheckPrograms, walked. -/
namespace Go.Proofs.Ytplpffcolcjboaa
open Go.RowKit Go.ChangeShapes Go.WideShapes
set_option linter.unusedVariables false
set_option linter.unusedSimpArgs false

set_option maxHeartbeats 2000000 in
set_option maxRecDepth 100000 in
theorem checkPrograms_walk (A : Option Addr) (n c : Nat) (ps : List Ins) (hp : ps.length = n) (hm : n ≤ c ∧ c ≤ maxLen) (hok : ∀ i ∈ ps, i.ok) {W : World} (hM : InM W A (pc ps)) (_ : World) :
    Calls Try.prog 6 #[.slice A n c] W fun e w' => e = .returned (.bool true) ∧ Ext W w' := by
  have hx := Ext.refl W
  by_cases big : 300 < n
  · have d1 : (300 : Int) < n := by omega
    clear hp hm hok hM
    go_enter Try.func6, Try.ntmps6
    go_wp2
    go_ret
    exact ⟨rfl, hx⟩
  have d1 : ¬ (300 : Int) < n := by omega
  have H1 := Lib.hid (refCopyI A n c ps W hp (by omega) hM)
  have H2 := Lib.hid (fun B c' W' h => checkAt B n c' ps W' hp hok (by omega) h)
  have H3 := Lib.hid (fun W' h => refAt A n c ps W' hp hok (by omega) h)
  have H4 := Lib.hid (fun B c' W' h => checkCheck B n c' ps W' hp hok (by omega) h)
  have H7 := Lib.hid (fun B c' W' h k => refSameI_true B A n c' n c ps W' hp rfl (by omega) h k)
  have HM := Lib.hid hM
  clear hp hm hok hM big
  generalize atE ps = res at *
  obtain ⟨x, y⟩ := res
  dsimp only at H2 H3 H4
  have s1 : (x == x) = true := by simp
  have s2 : (y == y) = true := by simp
  go_enter Try.func6, Try.ntmps6
  go_wp2_with fail
  refine (H1.out).mono ?_
  rintro e w1 ⟨B, c', rfl, ho, hx'⟩
  replace hx := Ext.trans (by first | exact hx | exact hx.alloc _ | exact (hx.alloc _).alloc _ | exact hx.drew) hx'
  clear hx'
  have hB1 := own_inM ho
  clear ho
  have HB := Lib.hid (fun W' (h : Ext w1 W') => hB1.ext h)
  have HA := Lib.hid (fun W' (h : Ext W W') => HM.out.ext h)
  clear hB1
  have hx1 := Ext.refl w1
  go_wp2_with fail
  refine (H2.out B c' _ (HB.out _ hx1)).mono ?_
  rintro e w2 ⟨rfl, hx'⟩
  replace hx1 := hx1.trans hx'
  replace hx := hx.trans hx'
  clear hx'
  go_wp2_with fail
  refine (H3.out _ (HA.out _ hx)).mono ?_
  rintro e w3 ⟨rfl, hx'⟩
  replace hx1 := hx1.trans hx'
  replace hx := hx.trans hx'
  clear hx'
  go_wp2_with fail
  refine (H4.out B c' _ (HB.out _ hx1)).mono ?_
  rintro e w4 ⟨rfl, hx'⟩
  replace hx1 := hx1.trans hx'
  replace hx := hx.trans hx'
  clear hx'
  go_wp2_with fail
  refine (H7.out B c' _ (HB.out _ hx1) (HA.out _ hx)).mono ?_
  rintro e w5 ⟨rfl, hx'⟩
  replace hx := hx.trans hx'
  go_wp2
  go_ret
  exact ⟨rfl, hx⟩
end Go.Proofs.Ytplpffcolcjboaa
