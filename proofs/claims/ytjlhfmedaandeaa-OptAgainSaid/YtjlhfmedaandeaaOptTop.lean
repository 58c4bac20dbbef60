import Derived.Test.YtjlhfmedaandeaaThread2
import Derived.Test.YtjlhfmedaandeaaShare1
import Derived.Test.YtjlhfmedaandeaaLively
/- opt.done, Thread, Share, Dead, Opt. -/
namespace Go.Proofs.Ytjlhfmedaandeaa
open Go.RowKit Go.ChangeShapes Go.WideShapes
set_option linter.unusedVariables false
set_option linter.unusedSimpArgs false

/-- How a pass ends. -/
def PassR (m : Nat) (qs : List Sy) (w : World) (e : Ending) (w' : World) : Prop := ∃ g c' more, e = .returned (.slice (some ⟨g, 0, none⟩) m c') ∧ Blk w' g 32 (sc qs ++ more).toArray ∧ w.heap.size ≤ g ∧ Ext w w'
def TopR (m : Nat) (qs : List Sy) (w : World) (e : Ending) (w' : World) : Prop := ∃ g c' more, e = .returned (.tuple #[.slice (some ⟨g, 0, none⟩) m c', .int .i64 0]) ∧ Blk w' g 32 (sc qs ++ more).toArray ∧ w.heap.size ≤ g ∧ Ext w w'
theorem threadedP (b o n c : Nat) (ps : List Sy) (w : World) (hp : ps.length = n) (hY : MayL ps) (hM : InM w (some ⟨b, o, none⟩) (sc ps)) : Calls Try.prog 50 #[.slice (some ⟨b, o, none⟩) n c] w (PassR n (threadL ps) w) :=
  callsIn_wide.1 (threaded_in b o n c ps w hp hY hM)
theorem sharedP (b o n c : Nat) (ps : List Sy) (w : World) (hp : ps.length = n) (hY : MayL ps) (hok : ∀ i ∈ ps, i.ok) (hM : InM w (some ⟨b, o, none⟩) (sc ps)) : Calls Try.prog 51 #[.slice (some ⟨b, o, none⟩) n c] w (PassR n (shareL ps) w) :=
  sharedI b o n c ps w hp hY hok hM
theorem livelyP (b o n c : Nat) (ps : List Sy) (w : World) (hp : ps.length = n) (hY : MayL ps) (hM : InM w (some ⟨b, o, none⟩) (sc ps)) : Calls Try.prog 52 #[.slice (some ⟨b, o, none⟩) n c] w (PassR (deadL ps).length (deadL ps) w) :=
  (livelyI b o n c ps w hp hY hM).mono fun e w' ⟨A, c', he, ho, hx⟩ => by
    have h1 := (dead_may hY).l1
    rw [dead_len, hp] at h1 ⊢
    obtain ⟨g, more, rfl, hb, hg⟩ := own_blk ho h1
    exact ⟨g, c', more, he, hb, hg, hx⟩
set_option maxRecDepth 100000 in
theorem passesI (W : World) : Calls Try.prog 53 #[] W fun e w' => e = .returned (.agg #[.func (.func 51) #[] #[], .func (.func 50) #[] #[], .func (.func 52) #[] #[]]) ∧ Ext W w' := by
  have bs := Blk.new W 76 #[.func (.func 51) #[] #[], .func (.func 50) #[] #[], .func (.func 52) #[] #[]]
  go_enter Try.func53, Try.ntmps53
  go_wp2
  exact bodyPost_ret (results_blk1 rfl _ _ W.heap.size 76 _ _ rfl bs Try.underlying76 rfl (by kernel_rfl)) rfl ⟨rfl, (Ext.refl W).alloc _⟩
set_option maxRecDepth 100000 in
theorem doneNo (A B : Option Addr) (n c m d : Nat) (ps : List Sy) (w : World) (hp : ps.length = n) (hok : ∀ i ∈ ps, i.ok) (hn : n ≤ maxLen) (hM : InM w A (sc ps)) (h : mayL ps = false) :
    Calls Try.prog 49 #[.slice A n c, .slice B m d] w fun e w' => e = .returned (.tuple #[.slice none 0 0, .int .i64 250]) ∧ Ext w w' := by
  have H := Lib.hid (codeMay A n c ps w hp hok hn hM)
  rw [h] at H
  clear h hM hok hp
  go_enter Try.func49, Try.ntmps49
  go_wp2_with fail
  refine H.out.mono ?_
  rintro e w1 ⟨rfl, hx1⟩
  go_wp2_with fail
  go_ret2
  exact ⟨rfl, hx1⟩
set_option maxRecDepth 100000 in
theorem done1 (fn : Nat) (hfn : fn = 50 ∨ fn = 51 ∨ fn = 52) (b o n c gp m : Nat) (ps qs : List Sy) (w : World) (hp : ps.length = n) (hok : ∀ i ∈ ps, i.ok) (hn : n ≤ maxLen) (hM : InM w (some ⟨b, o, none⟩) (sc ps)) (h : mayL ps = true)
    (hP : Blk w gp 75 #[.func (.func fn) #[] #[]]) (HF : ∀ W, Ext w W → Calls Try.prog fn #[.slice (some ⟨b, o, none⟩) n c] W (PassR m qs W)) :
    Calls Try.prog 49 #[.slice (some ⟨b, o, none⟩) n c, .slice (some ⟨gp, 0, none⟩) 1 1] w (TopR m qs w) := by
  have H := Lib.hid (codeMay (some ⟨b, o, none⟩) n c ps w hp hok hn hM)
  rw [h] at H
  have HFF := Lib.hid HF
  clear h hM hok hp HF
  rcases hfn with rfl | rfl | rfl
  all_goals
    go_enter Try.func49, Try.ntmps49
    go_wp2_with fail
    refine H.out.mono ?_
    rintro e w1 ⟨rfl, hx1⟩
    have c0 := (hP.ext hx1).cell 0
    simp only [List.getElem?_toArray, List.getElem?_cons_zero] at c0
    go_wp2_with fail
    refine wp_loop_rounds 2 ?_
    rw [rounds_succ]
    go_wp2_with fail
    refine (HFF.out w1 hx1).mono ?_
    rintro e w2 ⟨g, c', more, rfl, hb2, hg2, hx2⟩
    go_wp2_with fail
    rw [rounds_succ]
    go_wp2_with fail
    go_ret2
    exact ⟨g, c', more, rfl, hb2, by have := hx1.size; omega, hx1.trans hx2⟩
end Go.Proofs.Ytjlhfmedaandeaa
