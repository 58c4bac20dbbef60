import Derived.Test.YtplpffcolcjboaaCells5
import Derived.Test.YtplpffcolcjboaaCells6
namespace Go.Proofs.Ytplpffcolcjboaa
open Go.RowKit Go.ChangeShapes Go.WideShapes
set_option linter.unusedVariables false
set_option linter.unusedSimpArgs false

set_option maxHeartbeats 4000000 in
set_option maxRecDepth 100000 in
theorem refNextI (A : Option Addr) (n c : Nat) (ps : List Ins) (a : Int) (w : World) (hp : ps.length = n) (hb : n ≤ 100000) (hok : ∀ i ∈ ps, i.ok) (hM : InM w A (pc ps)) :
    Calls Try.prog 28 #[.slice A n c, .int .i64 a] w fun e w' => ∃ P c', e = .returned (.slice P (nextL ps a).length c') ∧ w'.ownsRow w.heap.size 3 1 (.slice P (nextL ps a).length c') (nextL ps a).length (nums .i64 (nextL ps a)) ∧ Ext w w' := by
  by_cases hc : a < 0 ∨ (n : Int) ≤ a ∨ 4096 < n
  · have hr : nextL ps a = [] := by unfold nextL; rw [if_pos (by rw [hp]; exact hc)]
    rw [hr]
    have h1 : World.ownsRow w w.heap.size 3 1 (.slice none 0 0) 0 (nums .i64 []) := World.ownsRow_nil _ _ _ _
    clear hr hp hok hM
    by_cases h0 : a < 0
    · clear hc
      go_enter Try.func28, Try.ntmps28
      go_wp2
      go_ret
      exact ⟨none, 0, rfl, h1, Ext.refl _⟩
    by_cases h2 : (n : Int) ≤ a
    · clear hc
      go_enter Try.func28, Try.ntmps28
      go_wp2
      go_ret
      exact ⟨none, 0, rfl, h1, Ext.refl _⟩
    have h3 : (4096 : Int) < n := by omega
    clear hc
    go_enter Try.func28, Try.ntmps28
    go_wp2
    go_ret
    exact ⟨none, 0, rfl, h1, Ext.refl _⟩
  · obtain ⟨k, rfl⟩ : ∃ k : Nat, a = (k : Int) := ⟨a.toNat, by omega⟩
    have hk : k < ps.length := by omega
    have hr : nextL ps k = wayL ps[k] k n := by
      unfold nextL
      rw [if_neg (by rw [hp]; exact hc), Int.toNat_natCast, List.getD_eq_getElem?_getD, List.getElem?_eq_getElem hk, hp]
      rfl
    rw [hr]
    have hik := hok _ (List.getElem_mem hk)
    obtain ⟨b1, o1, rfl, _⟩ := prog_some hM (by omega)
    have c1 := Lib.hid (fun (W' : World) (h : Ext w W') => prog_cells (hM.ext h) hk)
    have H1 := Lib.hid (fun W : World => refOf_any (ps[k]'hk).code W)
    rw [show (findO fun e => e.code == (ps[k]'hk).code) = byO (ps[k]'hk).code from rfl] at H1
    have hcl : clsOf (ps[k]'hk).code = (byO (ps[k]'hk).code).1.cls := by unfold clsOf; rw [by_same]
    obtain ⟨q0, q1, q2, q3⟩ := c1.out w (Ext.refl _)
    obtain ⟨i0, hi, hz0, hz1, hz2⟩ := info_parts info_int
    have HI := Lib.hid hi; have HZ0 := Lib.hid hz0; have HZ1 := Lib.hid hz1; have HZ2 := Lib.hid hz2
    clear hr hM hok hi hz0 hz1 hz2
    have hraw : wayRaw (ps[k]'hk) k = wayRaw (ps[k]'hk) k := rfl
    conv at hraw => rhs; unfold wayRaw
    rw [hcl] at hraw
    clear hcl
    generalize ps[k] = P at *
    obtain ⟨co, jt, jf, kk⟩ := P
    dsimp only at *
    generalize (byO co).1 = E at *
    obtain ⟨ec, en, q⟩ := E
    dsimp only [Ent.val, Ent.cells] at *
    have hfld := fun W => one_field2 ec q en W
    obtain ⟨_, ⟨j0, j1⟩, ⟨f0, f1⟩, k0, k1⟩ := hik
    have k1 : kk < 4294967296 := by have h : kk < 256 ^ 4 := k1; omega
    dsimp only at j0 j1 f0 f1 k0
    have b2 : (0 : Int) ≤ k := by omega
    have b3 : (k : Int) < n := by omega
    have b4 : ¬ (4096 : Int) < n := by omega
    have b5 : n ≤ 4096 := by omega
    clear hc hp hk hb
    by_cases hq : q = 0 ∨ q = 5
    · have hw : wayL ⟨co, jt, jf, kk⟩ k n = [] := by
        unfold wayL
        rw [hraw]
        rcases hq with rfl | rfl <;> rfl
      rw [hw]
      clear hraw hw
      rcases hq with rfl | rfl
      all_goals
        go_enter Try.func28, Try.ntmps28
        go_wp2_with fail
        refine (H1.out _).mono ?_
        rintro e wc ⟨rfl, hxc⟩
        have hown : wc.ownsRow w.heap.size 3 1 (.slice none 0 0) 0 (nums .i64 []) := World.ownsRow_nil _ _ _ _
        go_wp2
        go_ret
        exact ⟨_, _, rfl, hown, hxc⟩
    · have hq0 : (q == 0) = false := by simp; omega
      have hq5 : (q == 5) = false := by simp; omega
      rw [hq0, hq5] at hraw
      simp only [Bool.or_false, Bool.false_eq_true, if_false] at hraw
      clear hq
      by_cases hq4 : q = 4
      · subst hq4
        simp only [beq_self_eq_true, if_true] at hraw
        have hn5 : n ≤ 4096 := b5
        by_cases h5c : co = 5
        · have h5t : (co == 5) = true := by simpa using h5c
          rw [h5t] at hraw
          simp only [if_true] at hraw
          exact rn_ja n c k b1 o1 w i0 HI HZ0 HZ1 HZ2 co jt jf kk c1 ec en H1 j0 j1 f0 f1 k0 k1 b3 b5 h5c _ (wayL_one hraw)
        · have h5c' : (co == 5) = false := by simpa using h5c
          rw [h5c'] at hraw
          simp only [Bool.false_eq_true, if_false] at hraw
          by_cases hj : jt = jf
          · have hjt : (jt == jf) = true := by simpa using hj
            rw [hjt] at hraw
            simp only [if_true] at hraw
            rw [show min jt jf = jt from by omega] at hraw
            exact rn_eq n c k b1 o1 w i0 HI HZ0 HZ1 HZ2 co jt jf kk c1 ec en H1 j0 j1 f0 f1 k0 k1 b3 b5 h5c' hj _ (wayL_one hraw)
          · have hj' : (jt == jf) = false := by simpa using hj
            rw [hj'] at hraw
            simp only [Bool.false_eq_true, if_false] at hraw
            by_cases hlt : jt < jf
            · rw [show min jt jf = jt from by omega, show max jt jf = jf from by omega] at hraw
              exact rn_lt n c k b1 o1 w i0 HI HZ0 HZ1 HZ2 co jt jf kk c1 ec en H1 j0 j1 f0 f1 k0 k1 b3 b5 h5c' hlt _ (wayL_two hraw (by omega))
            · rw [show min jt jf = jf from by omega, show max jt jf = jt from by omega] at hraw
              exact rn_gt n c k b1 o1 w i0 HI HZ0 HZ1 HZ2 co jt jf kk c1 ec en H1 j0 j1 f0 f1 k0 k1 b3 b5 h5c' (by omega) _ (wayL_two hraw (by omega))
      · have hq4' : (q == 4) = false := by simpa using hq4
        rw [hq4'] at hraw
        simp only [Bool.false_eq_true, if_false] at hraw
        rw [wayL_one hraw]
        clear hq4 hraw
        generalize hzz : (k : Int) + 1 = z at *
        have z1 : 0 ≤ z := by omega
        have z2 : z ≤ 4097 := by omega
        have sz : (z != z) = false := by simp
        by_cases hz : z < (n : Int)
        · rw [if_pos hz]
          go_enter Try.func28, Try.ntmps28
          go_wp2_with fail
          refine (H1.out _).mono ?_
          rintro e wc ⟨rfl, hxc⟩
          have hg : w.heap.size ≤ (wc.alloc (.cells #[.int .i64 z] 3)).heap.size := (hxc.alloc _).size
          have hown : (wc.alloc (.cells #[.int .i64 z] 3)).ownsRow w.heap.size 3 1 (.slice none 0 0) 0 [] := World.ownsRow_nil _ _ _ _
          go_wp2_with (refine wpList_app rfl (.tmp 88) (.tmp 90) 35 rfl w.heap.size 3 i0 _ 1 8 Try.underlying35 HI.out HZ0.out HZ1.out HZ2.out rfl (by decide) none 0 0 [] rfl hown _ 1 1 [.int .i64 z] rfl rfl (inM_new rfl) (by simp [Value.oneCell']) (by decide) (by decide) hg ?_; intro A1 c1 w2 ho1 hg1 hzz; clear hzz; have hx2 := (hxc.alloc (.cells #[.int .i64 z] 3)).app hown (Nat.le_refl _) hg1)
          go_ret
          exact ⟨_, _, rfl, ho1, hx2⟩
        · rw [if_neg hz]
          go_enter Try.func28, Try.ntmps28
          go_wp2_with fail
          refine (H1.out _).mono ?_
          rintro e wc ⟨rfl, hxc⟩
          have hown : wc.ownsRow w.heap.size 3 1 (.slice none 0 0) 0 (nums .i64 []) := World.ownsRow_nil _ _ _ _
          go_wp2
          go_ret
          exact ⟨_, _, rfl, hown, hxc⟩
end Go.Proofs.Ytplpffcolcjboaa
