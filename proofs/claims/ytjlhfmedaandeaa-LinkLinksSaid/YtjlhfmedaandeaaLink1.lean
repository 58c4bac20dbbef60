import Derived.Test.YtjlhfmedaandeaaLinked2
import Derived.Test.YtjlhfmedaandeaaRev1
/- link.Link. -/
namespace Go.Proofs.Ytjlhfmedaandeaa
open Go.RowKit Go.ChangeShapes Go.WideShapes
set_option linter.unusedVariables false
set_option linter.unusedSimpArgs false

set_option maxRecDepth 100000 in
theorem linkNoI (A : Option Addr) (n c : Nat) (ps : List Sy) (w : World) (hp : ps.length = n) (hok : ∀ i ∈ ps, i.ok) (hn : n ≤ maxLen) (hM : InM w A (sc ps)) (h : mayL ps = false) :
    Calls Try.prog 16 #[.slice A n c] w fun e w' => e = .returned (.tuple #[.slice none 0 0, .int .i64 250]) ∧ Ext w w' := by
  have H := Lib.hid (linkedNo A n c ps w hp hok hn h hM)
  clear hp hok hn hM h
  go_enter Try.func16, Try.ntmps16
  go_wp2_with fail
  refine H.out.mono ?_
  rintro e w1 ⟨rfl, hx1⟩
  go_wp2_with fail
  go_ret2
  exact ⟨rfl, hx1⟩
set_option maxRecDepth 100000 in
theorem linkBigI (A : Option Addr) (n c : Nat) (ps : List Sy) (w : World) (hp : ps.length = n) (hok : ∀ i ∈ ps, i.ok) (hM : InM w A (sc ps)) (h : mayL ps = true) (hb : 4096 < (lall ps).bk.length) :
    Calls Try.prog 16 #[.slice A n c] w fun e w' => e = .returned (.tuple #[.slice none 0 0, .int .i64 270]) ∧ Ext w w' := by
  have H := Lib.hid (linkedYes A n c ps w hp hok h hM)
  generalize lall ps = st at *
  have y1 : decide ((4096 : Int) < st.bk.length) = true := by simp; omega
  clear hp hok hM h
  go_enter Try.func16, Try.ntmps16
  go_wp2_with fail
  refine H.out.mono ?_
  rintro e w1 ⟨gk, gp, base, v, rfl, L, hx1, hbs⟩
  obtain ⟨vA, vc, rfl⟩ := L.val
  have c0 := L.k.cell 0
  go_wp2_with fail
  go_ret2
  exact ⟨rfl, hx1⟩
set_option maxRecDepth 100000 in
theorem linkYesI (A : Option Addr) (n c : Nat) (ps : List Sy) (w : World) (hp : ps.length = n) (hok : ∀ i ∈ ps, i.ok) (hM : InM w A (sc ps)) (h : mayL ps = true) (hb : (lall ps).bk.length ≤ 4096) :
    Calls Try.prog 16 #[.slice A n c] w fun e w' => ∃ g cv more, e = .returned (.tuple #[.slice (some ⟨g, 0, none⟩) (lall ps).bk.length cv, .int .i64 0]) ∧ Blk w' g 43 (pc (lall ps).bk.reverse ++ more).toArray ∧ w.heap.size ≤ g ∧ Ext w w' := by
  have H := Lib.hid (linkedYes A n c ps w hp hok h hM)
  have h1 : 1 ≤ (lall ps).bk.length := by
    have := (lst_bd ps (List.range ps.length).reverse).h6
    have h2 := (mayL_of h).l1
    rw [List.length_reverse, List.length_range] at this
    unfold lall
    omega
  generalize lall ps = st at *
  have y1 : decide ((4096 : Int) < st.bk.length) = false := by simp; omega
  clear hp hok hM h
  go_enter Try.func16, Try.ntmps16
  go_wp2_with fail
  refine H.out.mono ?_
  rintro e w1 ⟨gk, gp, base, v, rfl, L, hx1, hbs⟩
  have c0 := L.k.cell 0
  obtain ⟨hlen, ⟨hv, h0⟩ | ⟨g, cap, cur, rfl, hbb, hh, hn', hm', hs', htk⟩⟩ := L.r
  · omega
  have hBg : Blk w1 g 43 (cur.toList).toArray := by unfold Blk; simpa using hh
  have hne : gk ≠ g := fun e => by
    subst e
    have h3 := L.k
    unfold Blk at h3
    rw [hh] at h3
    injection h3 with h3
    injection h3 with _ h3
    exact absurd h3 (by decide)
  have hcur : ∃ more, cur.toList = pc st.bk ++ more := ⟨cur.toList.drop (st.bk.length * 4), by rw [← htk, List.take_append_drop]⟩
  have HREV := Lib.hid (reverseI g st.bk.length cap (by omega) _ cur.toList st.bk rfl hcur w1 hBg)
  have HK := Lib.hid L.k
  clear hlen hh hs' htk hBg hcur L
  go_wp2_with fail
  refine HREV.out.mono ?_
  rintro e w2 ⟨⟨u, rfl⟩, hg2, more, hB2⟩
  have c2 := (HK.out.grown hg2 (fun e => by injection e with e; exact hne e)).cell 0
  clear c0
  go_wp2_with fail
  go_ret2
  exact ⟨g, cap, more, rfl, hB2, by omega, hx1.grown hg2 (fun k e => by cases e; omega)⟩
end Go.Proofs.Ytjlhfmedaandeaa
