import Derived.Test.YtjlhfmedaandeaaAliveR
import Derived.Test.YtjlhfmedaandeaaCode3
/- The law OptAlive, walked. -/
namespace Go.Proofs.Ytjlhfmedaandeaa
open Go.RowKit Go.ChangeShapes Go.WideShapes
set_option linter.unusedVariables false
set_option linter.unusedSimpArgs false

set_option maxRecDepth 100000 in
theorem optTopNo (A : Option Addr) (n c : Nat) (ps : List Sy) (w : World) (hp : ps.length = n) (hok : ∀ i ∈ ps, i.ok) (hn : n ≤ maxLen) (hM : InM w A (sc ps)) (h : mayL ps = false) :
    Calls Try.prog 13 #[.slice A n c] w fun e w' => e = .returned (.tuple #[.slice none 0 0, .int .i64 250]) ∧ Ext w w' := by
  have H := Lib.hid (codeMay A n c ps w hp hok hn hM)
  rw [h] at H
  clear h hM hok hp
  go_enter Try.func13, Try.ntmps13
  go_wp2_with fail
  refine H.out.mono ?_
  rintro e w1 ⟨rfl, hx1⟩
  go_wp2_with fail
  go_ret2
  exact ⟨rfl, hx1⟩
set_option maxRecDepth 100000 in
theorem optTopYes (A : Option Addr) (n c : Nat) (ps : List Sy) (w : World) (hp : ps.length = n) (hok : ∀ i ∈ ps, i.ok) (hn : n ≤ maxLen) (hM : InM w A (sc ps)) (h : mayL ps = true) :
    Calls Try.prog 13 #[.slice A n c] w fun e w' => (∃ g, e = .returned (.tuple #[.slice (some ⟨g, 0, none⟩) n n, .int .i64 0]) ∧ Blk w' g 4 (bools (aliveT ps))) ∧ Ext w w' := by
  have H := Lib.hid (codeMay A n c ps w hp hok hn hM)
  have H2 := Lib.hid (fun W hW => optAlive A n c ps W hp (mayL_of h) hW)
  rw [h] at H
  have HM := Lib.hid hM
  clear h hM hok hp
  go_enter Try.func13, Try.ntmps13
  go_wp2_with fail
  refine H.out.mono ?_
  rintro e w1 ⟨rfl, hx1⟩
  go_wp2_with fail
  refine (H2.out _ (HM.out.ext hx1)).mono ?_
  rintro e w2 ⟨rfl, hb, hx2⟩
  go_wp2_with fail
  go_ret2
  exact ⟨⟨_, rfl, hb⟩, hx1.trans hx2⟩
set_option maxHeartbeats 2000000 in
set_option maxRecDepth 100000 in
theorem optAlive_walk (A : Option Addr) (n c : Nat) (ps : List Sy) (hp : ps.length = n) (hm : n ≤ c ∧ c ≤ maxLen) (hok : ∀ i ∈ ps, i.ok) {w : World} (hM : InM w A (sc ps)) (_ : World) :
    Calls Try.prog 3 #[.slice A n c] w fun e w' => e = .returned (.bool true) ∧ Ext w w' := by
  have HM := Lib.hid hM
  by_cases big : 300 < n
  · have d1 : (300 : Int) < n := by omega
    clear hp hm hok hM
    go_enter Try.func3, Try.ntmps3
    go_wp2_with fail
    go_ret
    exact ⟨rfl, Ext.refl _⟩
  have d1 : ¬ (300 : Int) < n := by omega
  have hn : n ≤ maxLen := by omega
  have HR := Lib.hid (fun W hW => refMay25 A n c ps W hp hok hn hW)
  cases hmay : mayL ps with
  | false =>
    have H := Lib.hid (optTopNo A n c ps w hp hok hn hM hmay)
    rw [hmay] at HR
    clear hp hm hok hM hmay big hn
    go_enter Try.func3, Try.ntmps3
    go_wp2_with fail
    refine H.out.mono ?_
    rintro e w1 ⟨rfl, hx1⟩
    go_wp2_with fail
    refine (HR.out _ (HM.out.ext hx1)).mono ?_
    rintro e w2 ⟨rfl, hx2⟩
    go_wp2_with fail
    go_ret
    exact ⟨rfl, hx1.trans hx2⟩
  | true =>
    have H := Lib.hid (optTopYes A n c ps w hp hok hn hM hmay)
    have HA := Lib.hid (fun W hW => refAlive A n c ps W hp (mayL_of hmay) hW)
    have HL := Lib.hid (show (aliveT ps).length = n from (aupto_length ps _).trans hp)
    have s1 : ((n : Int) != n) = false := by simp
    rw [hmay] at HR
    generalize aliveT ps = l at *
    clear hp hm hok hM hmay hn
    have n3 : (n : Int) ≤ 300 := by omega
    clear big
    go_enter Try.func3, Try.ntmps3
    go_wp2_with fail
    refine H.out.mono ?_
    rintro e w1 ⟨⟨g, rfl, hb⟩, hx1⟩
    go_wp2_with fail
    refine (HR.out _ (HM.out.ext hx1)).mono ?_
    rintro e w2 ⟨rfl, hx2⟩
    go_wp2_with fail
    refine (HA.out _ (HM.out.ext (hx1.trans hx2))).mono ?_
    rintro e w3 ⟨rfl, hb3, hx3⟩
    have hb1 := hb.ext (hx2.trans hx3)
    have hx := (hx1.trans hx2).trans hx3
    generalize w2.heap.size = g2 at *
    clear hb hx1 hx2 hx3 H HR HA
    go_wp2_with fail
    go_loopw [6] (fun it W => ∃ i : Nat, i ≤ n ∧ it = .int .i64 i ∧ Ext w3 W) (fun it _ => n - (intOf it).toNat)
    case atStart => exact ⟨0, Nat.zero_le _, rfl, Ext.refl _⟩
    case round =>
      obtain ⟨i, hi, rfl, hy⟩ := hrel
      by_cases hlt : i < n
      · have hil : i < l.length := by rw [HL.out]; exact hlt
        have c1 := ((hb1.ext hy).cell i).trans (bools_at l i hil)
        have c2 := ((hb3.ext hy).cell i).trans (bools_at l i hil)
        have i0 : (0 : Int) ≤ i := by omega
        have i1 : (i : Int) < n := by omega
        generalize l[i] = b at *
        have bb : (b != b) = false := by cases b <;> rfl
        clear hil hb1 hb3
        go_wp2_with fail
        go_quiet (fail)
        go_wp2_with fail
        go_roundw
        case rel => exact ⟨i + 1, by omega, by go_num, by first | exact hy | exact hy.drewN _⟩
        case measure => simp [intOf]; omega
      · obtain rfl : i = n := by omega
        go_wp2_with fail
        go_ret
        exact ⟨rfl, hx.trans hy⟩
end Go.Proofs.Ytjlhfmedaandeaa
