import Derived.Test.YtjlhfmedaandeaaOptTop
import Derived.Laws.EntriesVeiled
/- opt.Thread, Share, Dead, Opt. -/
namespace Go.Proofs.Ytjlhfmedaandeaa
open Go.RowKit Go.ChangeShapes Go.WideShapes
set_option linter.unusedVariables false
set_option linter.unusedSimpArgs false

set_option maxHeartbeats 1000000 in
set_option maxRecDepth 100000 in
theorem done3 (b o n c gp : Nat) (ps : List Sy) (w : World) (hp : ps.length = n) (hok : ∀ i ∈ ps, i.ok) (hn : n ≤ maxLen) (hM : InM w (some ⟨b, o, none⟩) (sc ps)) (h : mayL ps = true)
    (hP : Blk w gp 76 #[.func (.func 51) #[] #[], .func (.func 50) #[] #[], .func (.func 52) #[] #[]]) :
    Calls Try.prog 49 #[.slice (some ⟨b, o, none⟩) n c, .slice (some ⟨gp, 0, none⟩) 3 3] w (TopR (optL ps).length (optL ps) w) := by
  have hY := mayL_of h
  have h1 := share_may hY
  have h2 := thread_may h1
  have l1 : (shareL ps).length = n := by rw [share_len]; exact hp
  have l2 : (threadL (shareL ps)).length = n := by rw [thread_len h1]; exact l1
  have H := Lib.hid (codeMay (some ⟨b, o, none⟩) n c ps w hp hok hn hM)
  rw [h] at H
  have HM := Lib.hid hM
  have HF1 := Lib.hid (fun W hW => sharedP b o n c ps W hp hY hok hW)
  have HF2 := Lib.hid (fun g c' W hW => threadedP g 0 n c' (shareL ps) W l1 h1 hW)
  have HF3 := Lib.hid (fun g c' W hW => livelyP g 0 n c' (threadL (shareL ps)) W l2 h2 hW)
  clear h hM hok hp hY h1 h2 l1 l2
  go_enter Try.func49, Try.ntmps49
  go_wp2_with fail
  refine H.out.mono ?_
  rintro e w1 ⟨rfl, hx1⟩
  have c0 := (hP.ext hx1).cell 0
  simp only [List.getElem?_toArray, List.getElem?_cons_zero] at c0
  go_wp2_with fail
  refine wp_loop_rounds 4 ?_
  rw [rounds_succ]
  go_wp2_with fail
  refine (HF1.out w1 (HM.out.ext hx1)).mono ?_
  rintro e w2 ⟨g2, c2, m2, rfl, hb2, hg2, hx2⟩
  have c1 := (hP.ext (hx1.trans hx2)).cell 1
  simp only [List.getElem?_toArray, List.getElem?_cons_zero, List.getElem?_cons_succ] at c1
  clear c0
  go_wp2_with fail
  rw [rounds_succ]
  go_wp2_with fail
  refine (HF2.out _ _ _ (InM.ofBlk hb2 rfl).prefix_).mono ?_
  rintro e w3 ⟨g3, c3, m3, rfl, hb3, hg3, hx3⟩
  have c2' := (hP.ext ((hx1.trans hx2).trans hx3)).cell 2
  simp only [List.getElem?_toArray, List.getElem?_cons_zero, List.getElem?_cons_succ] at c2'
  clear c1
  go_wp2_with fail
  rw [rounds_succ]
  go_wp2_with fail
  refine (HF3.out _ _ _ (InM.ofBlk hb3 rfl).prefix_).mono ?_
  rintro e w4 ⟨g4, c4, m4, rfl, hb4, hg4, hx4⟩
  clear c2'
  go_wp2_with fail
  rw [rounds_succ]
  go_wp2_with fail
  go_ret2
  exact ⟨g4, c4, m4, rfl, hb4, by have := hx1.size; have := hx2.size; have := hx3.size; omega, hx1.trans (hx2.trans (hx3.trans hx4))⟩
set_option maxRecDepth 100000 in
theorem topThreadNo (A : Option Addr) (n c : Nat) (ps : List Sy) (w : World) (hp : ps.length = n) (hok : ∀ i ∈ ps, i.ok) (hn : n ≤ maxLen) (hM : InM w A (sc ps)) (h : mayL ps = false) :
    Calls Try.prog 25 #[.slice A n c] w fun e w' => e = .returned (.tuple #[.slice none 0 0, .int .i64 250]) ∧ Ext w w' := by
  have HD := Lib.hid (fun B m d W hW => doneNo A B n c m d ps W hp hok hn hW h)
  have hx := (Ext.refl w).alloc (.cells #[.func (.func 50) #[] #[]] 75)
  have HM := Lib.hid (hM.ext hx)
  clear h hM hok hp
  go_enter Try.func25, Try.ntmps25
  go_wp2_with fail
  refine (HD.out _ _ _ _ HM.out).mono ?_
  rintro e w1 ⟨rfl, hx1⟩
  go_wp2_with fail
  go_ret2
  exact ⟨rfl, hx.trans hx1⟩
set_option maxRecDepth 100000 in
theorem topThreadYes (b o n c : Nat) (ps : List Sy) (w : World) (hp : ps.length = n) (hok : ∀ i ∈ ps, i.ok) (hn : n ≤ maxLen) (hM : InM w (some ⟨b, o, none⟩) (sc ps)) (h : mayL ps = true) :
    Calls Try.prog 25 #[.slice (some ⟨b, o, none⟩) n c] w (TopR n (threadL ps) w) := by
  have hx := (Ext.refl w).alloc (.cells #[.func (.func 50) #[] #[]] 75)
  have hb := Blk.new w 75 #[.func (.func 50) #[] #[]]
  have HD := Lib.hid (done1 50 (.inl rfl) b o n c w.heap.size n ps (threadL ps) _ hp hok hn (hM.ext hx) h hb (fun W hW => threadedP b o n c ps W hp (mayL_of h) ((hM.ext hx).ext hW)))
  clear h hM hok hp
  go_enter Try.func25, Try.ntmps25
  go_wp2_with fail
  refine (HD.out).mono ?_
  rintro e w1 ⟨g, c', more, rfl, hb1, hg1, hx1⟩
  go_wp2_with fail
  go_ret2
  exact ⟨g, c', more, rfl, hb1, by have := hx.size; omega, hx.trans hx1⟩
set_option maxRecDepth 100000 in
theorem topShareNo (A : Option Addr) (n c : Nat) (ps : List Sy) (w : World) (hp : ps.length = n) (hok : ∀ i ∈ ps, i.ok) (hn : n ≤ maxLen) (hM : InM w A (sc ps)) (h : mayL ps = false) :
    Calls Try.prog 26 #[.slice A n c] w fun e w' => e = .returned (.tuple #[.slice none 0 0, .int .i64 250]) ∧ Ext w w' := by
  have HD := Lib.hid (fun B m d W hW => doneNo A B n c m d ps W hp hok hn hW h)
  have hx := (Ext.refl w).alloc (.cells #[.func (.func 51) #[] #[]] 75)
  have HM := Lib.hid (hM.ext hx)
  clear h hM hok hp
  go_enter Try.func26, Try.ntmps26
  go_wp2_with fail
  refine (HD.out _ _ _ _ HM.out).mono ?_
  rintro e w1 ⟨rfl, hx1⟩
  go_wp2_with fail
  go_ret2
  exact ⟨rfl, hx.trans hx1⟩
set_option maxRecDepth 100000 in
theorem topShareYes (b o n c : Nat) (ps : List Sy) (w : World) (hp : ps.length = n) (hok : ∀ i ∈ ps, i.ok) (hn : n ≤ maxLen) (hM : InM w (some ⟨b, o, none⟩) (sc ps)) (h : mayL ps = true) :
    Calls Try.prog 26 #[.slice (some ⟨b, o, none⟩) n c] w (TopR n (shareL ps) w) := by
  have hx := (Ext.refl w).alloc (.cells #[.func (.func 51) #[] #[]] 75)
  have hb := Blk.new w 75 #[.func (.func 51) #[] #[]]
  have HD := Lib.hid (done1 51 (.inr (.inl rfl)) b o n c w.heap.size n ps (shareL ps) _ hp hok hn (hM.ext hx) h hb (fun W hW => sharedP b o n c ps W hp (mayL_of h) hok ((hM.ext hx).ext hW)))
  clear h hM hok hp
  go_enter Try.func26, Try.ntmps26
  go_wp2_with fail
  refine (HD.out).mono ?_
  rintro e w1 ⟨g, c', more, rfl, hb1, hg1, hx1⟩
  go_wp2_with fail
  go_ret2
  exact ⟨g, c', more, rfl, hb1, by have := hx.size; omega, hx.trans hx1⟩
set_option maxRecDepth 100000 in
theorem topDeadNo (A : Option Addr) (n c : Nat) (ps : List Sy) (w : World) (hp : ps.length = n) (hok : ∀ i ∈ ps, i.ok) (hn : n ≤ maxLen) (hM : InM w A (sc ps)) (h : mayL ps = false) :
    Calls Try.prog 27 #[.slice A n c] w fun e w' => e = .returned (.tuple #[.slice none 0 0, .int .i64 250]) ∧ Ext w w' := by
  have HD := Lib.hid (fun B m d W hW => doneNo A B n c m d ps W hp hok hn hW h)
  have hx := (Ext.refl w).alloc (.cells #[.func (.func 52) #[] #[]] 75)
  have HM := Lib.hid (hM.ext hx)
  clear h hM hok hp
  go_enter Try.func27, Try.ntmps27
  go_wp2_with fail
  refine (HD.out _ _ _ _ HM.out).mono ?_
  rintro e w1 ⟨rfl, hx1⟩
  go_wp2_with fail
  go_ret2
  exact ⟨rfl, hx.trans hx1⟩
set_option maxRecDepth 100000 in
theorem topDeadYes (b o n c : Nat) (ps : List Sy) (w : World) (hp : ps.length = n) (hok : ∀ i ∈ ps, i.ok) (hn : n ≤ maxLen) (hM : InM w (some ⟨b, o, none⟩) (sc ps)) (h : mayL ps = true) :
    Calls Try.prog 27 #[.slice (some ⟨b, o, none⟩) n c] w (TopR (deadL ps).length (deadL ps) w) := by
  have hx := (Ext.refl w).alloc (.cells #[.func (.func 52) #[] #[]] 75)
  have hb := Blk.new w 75 #[.func (.func 52) #[] #[]]
  have HD := Lib.hid (done1 52 (.inr (.inr rfl)) b o n c w.heap.size (deadL ps).length ps (deadL ps) _ hp hok hn (hM.ext hx) h hb (fun W hW => livelyP b o n c ps W hp (mayL_of h) ((hM.ext hx).ext hW)))
  clear h hM hok hp
  go_enter Try.func27, Try.ntmps27
  go_wp2_with fail
  refine (HD.out).mono ?_
  rintro e w1 ⟨g, c', more, rfl, hb1, hg1, hx1⟩
  go_wp2_with fail
  go_ret2
  exact ⟨g, c', more, rfl, hb1, by have := hx.size; omega, hx.trans hx1⟩
set_option maxRecDepth 100000 in
theorem topOptNo (A : Option Addr) (n c : Nat) (ps : List Sy) (w : World) (hp : ps.length = n) (hok : ∀ i ∈ ps, i.ok) (hn : n ≤ maxLen) (hM : InM w A (sc ps)) (h : mayL ps = false) :
    Calls Try.prog 28 #[.slice A n c] w fun e w' => e = .returned (.tuple #[.slice none 0 0, .int .i64 250]) ∧ Ext w w' := by
  have HD := Lib.hid (fun B m d W hW => doneNo A B n c m d ps W hp hok hn hW h)
  have HPS := Lib.hid passesI
  have HM := Lib.hid hM
  clear h hM hok hp
  go_enter Try.func28, Try.ntmps28
  go_wp2_with fail
  refine (HPS.out _).mono ?_
  rintro e w1 ⟨rfl, hx1⟩
  have hx2 := hx1.alloc (.cells #[.func (.func 51) #[] #[], .func (.func 50) #[] #[], .func (.func 52) #[] #[]] 76)
  go_wp2_with fail
  refine (HD.out _ _ _ _ (HM.out.ext hx2)).mono ?_
  rintro e w3 ⟨rfl, hx3⟩
  go_wp2_with fail
  go_ret2
  exact ⟨rfl, hx2.trans hx3⟩
set_option maxRecDepth 100000 in
theorem topOptYes (b o n c : Nat) (ps : List Sy) (w : World) (hp : ps.length = n) (hok : ∀ i ∈ ps, i.ok) (hn : n ≤ maxLen) (hM : InM w (some ⟨b, o, none⟩) (sc ps)) (h : mayL ps = true) :
    Calls Try.prog 28 #[.slice (some ⟨b, o, none⟩) n c] w (TopR (optL ps).length (optL ps) w) := by
  have HD := Lib.hid (fun gp W hW hP => done3 b o n c gp ps W hp hok hn hW h hP)
  have HPS := Lib.hid passesI
  have HM := Lib.hid hM
  clear h hM hok hp
  go_enter Try.func28, Try.ntmps28
  go_wp2_with fail
  refine (HPS.out _).mono ?_
  rintro e w1 ⟨rfl, hx1⟩
  have hx2 := hx1.alloc (.cells #[.func (.func 51) #[] #[], .func (.func 50) #[] #[], .func (.func 52) #[] #[]] 76)
  have hb2 := Blk.new w1 76 #[.func (.func 51) #[] #[], .func (.func 50) #[] #[], .func (.func 52) #[] #[]]
  go_wp2_with fail
  refine (HD.out _ _ (HM.out.ext hx2) hb2).mono ?_
  rintro e w3 ⟨g, c', more, rfl, hb3, hg3, hx3⟩
  go_wp2_with fail
  go_ret2
  exact ⟨g, c', more, rfl, hb3, by have := hx2.size; omega, hx2.trans hx3⟩
end Go.Proofs.Ytjlhfmedaandeaa
