import Derived.Test.YtkejcfbhikpibaaCells15
import Derived.Test.YtkejcfbhikpibaaCells13
/- cells.walk of too long a program; cells.Reached and cells.Sure. -/
namespace Go.Proofs.Ytkejcfbhikpibaa
open Go.RowKit Go.ChangeShapes Go.WideShapes
set_option linter.unusedVariables false
set_option linter.unusedSimpArgs false

set_option maxRecDepth 100000 in
theorem walkBig (A : Option Addr) (n c : Nat) (hn : 4096 < n) (vf : Nat) (lb : Array Value) (w : World) :
    Calls Try.prog 41 #[.slice A n c, .func (.func vf) #[] lb] w fun e w' => (∃ v, e = .returned v) ∧ w = w' := by
  have d1 : (4096 : Int) < n := by omega
  refine (callsIn_wide (n := 3)).1 ?_
  refine callsIn_of_wp_marks Try.func41 rfl trivial ?_ rfl
  simp only [Try.ntmps41, List.size_toArray, List.length_cons, List.length_nil, Nat.reduceAdd, Nat.reduceSub, Array.replicate_succ, Array.replicate_zero, List.push_toArray, List.append_toArray, List.nil_append, List.cons_append]
  gi_wp2
  exact ⟨_, results_none rfl _ _ _, ⟨_, rfl⟩, rfl⟩

/-- A row and its box, owned by a closure. -/
def RowOwn (b g : Nat) (_ : World) (x : Nat) : Prop := x = b ∨ x = g
def RowVI {α : Type} (t1 t2 : TypeId) (n b g : Nat) (cs : α → Array Value) (s : α) (W : World) : Prop := Blk W b t1 #[.slice (some ⟨g, 0, none⟩) n n] ∧ Blk W g t2 (cs s)
theorem rowOwns {α : Type} (t1 t2 : TypeId) (n b g : Nat) (cs : α → Array Value) (B : Nat) : Owns (RowOwn b g) (RowVI t1 t2 n b g cs) B :=
  ⟨fun s W x h o => by
    rcases o with rfl | rfl
    · exact ⟨_, _, _, h.1⟩
    · exact ⟨_, _, _, h.2⟩,
  fun s W W' h o => ⟨⟨o.blk h.1 (.inr (.inl rfl)), o.blk h.2 (.inr (.inr rfl))⟩, fun _ => Iff.rfl⟩⟩
theorem rowVK {b g i : Nat} {W : World} (u : Value) : VK (RowOwn b g) W (W.setCell ⟨g, i, none⟩ u) :=
  ⟨rfl, rfl, rfl, by simp, fun x hx ho => ⟨Below.heap_setCell W ⟨g, i, none⟩ u x (fun e => ho (.inr e)), ho⟩⟩
/-- The marks, the masks, that the visits set. -/
def marksOf (n : Nat) (vs : List (Nat × Int)) : List Bool := vs.foldl (fun l v => l.set v.1 true) (List.replicate n false)
def masksOf (n : Nat) (vs : List (Nat × Int)) : List Int := vs.foldl (fun l v => l.set v.1 v.2) (List.replicate n 65535)
theorem marksOf_snoc (n : Nat) (vs : List (Nat × Int)) (v : Nat × Int) : marksOf n (vs ++ [v]) = (marksOf n vs).set v.1 true := by simp [marksOf, List.foldl_append]
theorem masksOf_snoc (n : Nat) (vs : List (Nat × Int)) (v : Nat × Int) : masksOf n (vs ++ [v]) = (masksOf n vs).set v.1 v.2 := by simp [masksOf, List.foldl_append]
theorem foldl_len {α β : Type} (f : List β → α → List β) (hf : ∀ l a, (f l a).length = l.length) : ∀ (vs : List α) (l : List β), (vs.foldl f l).length = l.length
  | [], _ => rfl
  | v :: vs, l => by rw [List.foldl_cons, foldl_len f hf vs, hf]
theorem marksOf_len (n : Nat) (vs : List (Nat × Int)) : (marksOf n vs).length = n := by
  unfold marksOf
  rw [foldl_len _ (fun l a => by simp)]
  simp
theorem masksOf_len (n : Nat) (vs : List (Nat × Int)) : (masksOf n vs).length = n := by
  unfold masksOf
  rw [foldl_len _ (fun l a => by simp)]
  simp

theorem ext_of_vk {OV : World → Nat → Prop} {w w1 W' : World} (h : Ext w w1) (k : VK OV w1 W') (ho : ∀ b, b < w.heap.size → ¬ OV w1 b) : Ext w W' :=
  ⟨k.os.trans h.os, k.tape.trans h.tape, k.output.trans h.output, Nat.le_trans h.size k.size, fun b hb => ((k.keep b (Nat.lt_of_lt_of_le hb h.size) (ho b hb)).1).trans (h.block hb)⟩

/-- cells.Reached's answer, cells.Sure's. -/
def reachT (ps : List Ins) : List Bool := if 4096 < ps.length then [] else marksOf ps.length (visits ps ps.length)
def sureT (ps : List Ins) : List Int := if 4096 < ps.length then [] else masksOf ps.length (visits ps ps.length)

set_option maxHeartbeats 2000000 in
set_option maxRecDepth 100000 in
theorem reachedI (A : Option Addr) (n c : Nat) (ps : List Ins) (w : World) (hp : ps.length = n) (hok : ∀ i ∈ ps, i.ok) (hM : InM w A (pc ps)) :
    Calls Try.prog 26 #[.slice A n c] w fun e w' => ∃ P, e = .returned (.slice P (reachT ps).length (reachT ps).length) ∧ InM w' P ((reachT ps).map Value.bool) ∧ Ext w w' := by
  by_cases big : 4096 < n
  · have hr : reachT ps = [] := by unfold reachT; rw [if_pos (by omega)]
    rw [hr]
    have HR := Lib.hid (fun W => roomI A n c W)
    simp only [if_pos big] at HR
    have HW := Lib.hid (fun vf lb W => walkBig A n c big vf lb W)
    have hmk : ∀ w : World, (Instr.makeSlice 53 (.int .i64 0) (.int .i64 0)).run Try.prog w = .ok (.slice (some ⟨w.heap.size, 0, none⟩) 0 0) (w.alloc (.cells (bools (List.replicate 0 false)) 4)) := fun w => by
      rw [← bools_rep]
      exact make_run1 53 4 (.bool false) 1 Try.underlying53 info_bool rfl .i64 .i64 0 0 (Nat.le_refl _) (by omega) (by decide) w
    have hx := ((Ext.refl w).alloc (.cells (bools (List.replicate 0 false)) 4)).alloc (.cells #[.slice (some ⟨w.heap.size, 0, none⟩) 0 0] 53)
    clear hr hok hM big hp
    go_enter Try.func26, Try.ntmps26
    go_wp2_with fail
    refine (HR.out _).mono ?_
    rintro e w1 ⟨rfl, rfl⟩
    go_wp2_with fail
    refine (HW.out _ _ _).mono ?_
    rintro e w1 ⟨⟨v, rfl⟩, rfl⟩
    go_wp2
    go_ret
    exact ⟨_, rfl, InM.nil _ _, hx⟩
  · have hr : reachT ps = marksOf n (visits ps n) := by unfold reachT; rw [if_neg (by omega), hp]
    rw [hr]
    have HR := Lib.hid (fun W => roomI A n c W)
    simp only [if_neg big] at HR
    have hmk : ∀ w : World, (Instr.makeSlice 53 (.int .i64 (n : Int)) (.int .i64 (n : Int))).run Try.prog w = .ok (.slice (some ⟨w.heap.size, 0, none⟩) n n) (w.alloc (.cells (bools (List.replicate n false)) 4)) := fun w => by
      rw [← bools_rep]
      exact make_run1 53 4 (.bool false) 1 Try.underlying53 info_bool rfl .i64 .i64 n n (Nat.le_refl _) (by omega) (by decide) w
    have hx := ((Ext.refl w).alloc (.cells (bools (List.replicate n false)) 4)).alloc (.cells #[.slice (some ⟨w.heap.size, 0, none⟩) n n] 53)
    have Bg : Blk ((w.alloc (.cells (bools (List.replicate n false)) 4)).alloc (.cells #[.slice (some ⟨w.heap.size, 0, none⟩) n n] 53)) w.heap.size 4 (bools (List.replicate n false)) := (Blk.new w _ _).alloc _
    have Bb : Blk ((w.alloc (.cells (bools (List.replicate n false)) 4)).alloc (.cells #[.slice (some ⟨w.heap.size, 0, none⟩) n n] 53)) (w.heap.size + 1) 53 #[.slice (some ⟨w.heap.size, 0, none⟩) n n] := Blk.new_ (by simp)
    have HW := Lib.hid (fun W h ha h0 => callsIn_wide.1 (walkT A n c ps hp (by omega) hok 42 #[.pointer (some ⟨w.heap.size + 1, 0, none⟩)] (enters_of Try.func42 (by kernel_rfl) rfl) (RowOwn (w.heap.size + 1) w.heap.size) (RowVI 53 4 n (w.heap.size + 1) w.heap.size (fun vs => bools (marksOf n vs))) W (rowOwns _ _ _ _ _ _ _)
      (fun k W2 hk _ hV => (visitR (w.heap.size + 1) w.heap.size k n _ _ W2 (marksOf_len _ _) hk hV.1 hV.2).mono (by
        rintro e w3 ⟨hv, rfl⟩
        refine ⟨hv, ⟨hV.1.far (by simp) _, ?_⟩, rowVK _⟩
        show Blk _ _ _ (bools (marksOf n (visits ps k ++ [(k, (wupto ps k).1.getD k 0)])))
        rw [marksOf_snoc, ← bools_set]
        exact hV.2.set_ _ _)) (hM.ext h) ha h0))
    have HM := Lib.hid hM
    clear hr hok hM
    go_enter Try.func26, Try.ntmps26
    go_wp2_with fail
    refine (HR.out _).mono ?_
    rintro e w1 ⟨rfl, rfl⟩
    go_wp2_with fail
    generalize (w.alloc (.cells (bools (List.replicate n false)) 4)).alloc (.cells #[.slice (some ⟨w.heap.size, 0, none⟩) n n] 53) = w1 at *
    refine (HW.out w1 hx (fun h0 a e => ?_) ⟨Bb, by simpa [marksOf] using Bg⟩).mono ?_
    · subst e
      obtain ⟨b, o, e2, hb⟩ := prog_some HM.out (by omega)
      injection e2 with e2
      subst e2
      simp only [RowOwn]
      omega
    rintro e w2 ⟨⟨v, rfl⟩, ⟨hb, hg⟩, hk⟩
    have p0 := hb.cell 0
    have hx2 : Ext w w2 := ext_of_vk hx hk (fun b hb ho => by rcases ho with h | h <;> omega)
    clear hk hx Bg Bb
    go_wp2
    go_ret
    rw [marksOf_len]
    exact ⟨_, rfl, InM.ofBlk hg (by simp [bools]), hx2⟩
set_option maxHeartbeats 2000000 in
set_option maxRecDepth 100000 in
theorem sureI (A : Option Addr) (n c : Nat) (ps : List Ins) (w : World) (hp : ps.length = n) (hok : ∀ i ∈ ps, i.ok) (hM : InM w A (pc ps)) :
    Calls Try.prog 27 #[.slice A n c] w fun e w' => ∃ P, e = .returned (.slice P (sureT ps).length (sureT ps).length) ∧ InM w' P (nums .u16 (sureT ps)) ∧ Ext w w' := by
  have B0 := Blk.new w 29 (masks [65535])
  have HRep := Lib.hid (fun m W (h : m ≤ 4096) => repeatI w.heap.size m h W)
  by_cases big : 4096 < n
  · have hr : sureT ps = [] := by unfold sureT; rw [if_pos (by omega)]
    rw [hr]
    have HR := Lib.hid (fun W => roomI A n c W)
    simp only [if_pos big] at HR
    have HW := Lib.hid (fun vf lb W => walkBig A n c big vf lb W)
    have hx := (Ext.refl w).alloc (.cells #[.int .u16 65535] 29)
    have HRe : ∀ W, Blk W w.heap.size 29 (masks [65535]) → Calls Try.prog 43 #[.slice (some ⟨w.heap.size, 0, none⟩) 1 1, .int .i64 0] W fun e w' => e = .returned (.slice (some ⟨W.heap.size, 0, none⟩) 0 0) ∧ Blk w' W.heap.size 29 (masks (List.replicate 0 65535)) ∧ Ext W w' := fun W h => HRep.out 0 W (by omega) h
    have HRe := Lib.hid HRe
    clear hr hok hM big hp HRep
    go_enter Try.func27, Try.ntmps27
    go_wp2_with fail
    refine (HR.out _).mono ?_
    rintro e w1 ⟨rfl, rfl⟩
    go_wp2_with fail
    refine (HRe.out _ B0).mono ?_
    rintro e w1 ⟨rfl, _, hx1⟩
    have hx2 := (hx.trans hx1).alloc (.cells #[.slice (some ⟨(w.alloc (.cells #[.int .u16 65535] 29)).heap.size, 0, none⟩) 0 0] 55)
    clear hx hx1 B0
    go_wp2_with fail
    refine (HW.out _ _ _).mono ?_
    rintro e w2 ⟨⟨v, rfl⟩, rfl⟩
    go_wp2
    go_ret
    exact ⟨_, rfl, InM.nil _ _, by simpa using hx2⟩
  · have hr : sureT ps = masksOf n (visits ps n) := by unfold sureT; rw [if_neg (by omega), hp]
    rw [hr]
    have HR := Lib.hid (fun W => roomI A n c W)
    simp only [if_neg big] at HR
    have hx := (Ext.refl w).alloc (.cells #[.int .u16 65535] 29)
    have HRe := Lib.hid (fun W h => HRep.out n W (by omega) h)
    have HW := Lib.hid (fun b g W h ha h0 => callsIn_wide.1 (walkT A n c ps hp (by omega) hok 44 #[.pointer (some ⟨b, 0, none⟩)] (enters_of Try.func44 (by kernel_rfl) rfl) (RowOwn b g) (RowVI 55 29 n b g (fun vs => masks (masksOf n vs))) W (rowOwns _ _ _ _ _ _ _)
      (fun k W2 hk _ hV => (visitS b g k n _ _ W2 (masksOf_len _ _) hk hV.1 hV.2).mono (by
        rintro e w3 ⟨hv, rfl⟩
        refine ⟨hv, ⟨hV.1.far ?_ _, ?_⟩, rowVK _⟩
        · intro e
          have h1 := hV.1
          have h2 := hV.2
          dsimp only at e
          subst e
          unfold Blk at h1 h2
          rw [h1] at h2
          injection h2 with h2
          injection h2 with _ h3
          exact absurd h3 (by decide)
        · show Blk _ _ _ (masks (masksOf n (visits ps k ++ [(k, (wupto ps k).1.getD k 0)])))
          rw [masksOf_snoc, ← masks_set]
          exact hV.2.set_ _ _)) (hM.ext h) ha h0))
    have HM := Lib.hid hM
    clear hr hok hM HRep
    go_enter Try.func27, Try.ntmps27
    go_wp2_with fail
    refine (HR.out _).mono ?_
    rintro e w1 ⟨rfl, rfl⟩
    go_wp2_with fail
    refine (HRe.out _ B0).mono ?_
    rintro e w1 ⟨rfl, Bg, hx1⟩
    have hx2 := hx.trans hx1
    try simp only [World.size_alloc] at Bg
    try simp only [World.size_alloc]
    have hg : w.heap.size ≤ w.heap.size + 1 := by omega
    generalize w.heap.size + 1 = g at *
    have hx3 := hx2.alloc (.cells #[.slice (some ⟨g, 0, none⟩) n n] 55)
    have Bb := Blk.new w1 55 #[.slice (some ⟨g, 0, none⟩) n n]
    replace Bg := Bg.alloc (.cells #[.slice (some ⟨g, 0, none⟩) n n] 55)
    have hb := hx2.size
    clear hx hx1 hx2 B0
    go_wp2_with fail
    generalize w1.alloc (.cells #[.slice (some ⟨g, 0, none⟩) n n] 55) = w2 at *
    generalize w1.heap.size = b at *
    refine (HW.out b g w2 hx3 (fun h0 a e => ?_) ⟨Bb, by simpa [masksOf] using Bg⟩).mono ?_
    · subst e
      obtain ⟨b', o, e2, hb'⟩ := prog_some HM.out (by omega)
      injection e2 with e2
      subst e2
      simp only [RowOwn]
      omega
    rintro e w3 ⟨⟨v, rfl⟩, ⟨hb3, hg3⟩, hk⟩
    have p0 := hb3.cell 0
    have hx4 : Ext w w3 := ext_of_vk hx3 hk (fun b hb ho => by rcases ho with h | h <;> omega)
    clear hk hx3 Bg Bb
    go_wp2
    go_ret
    rw [masksOf_len]
    exact ⟨_, rfl, InM.ofBlk hg3 (by simp [masks, nums]), hx4⟩
end Go.Proofs.Ytkejcfbhikpibaa
