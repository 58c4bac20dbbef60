import Derived.Test.YtlicndonhmcmmaaPrg8
namespace Go.Proofs.Ytlicndonhmcmmaa
open Go.RowKit Go.ChangeShapes Go.WideShapes
set_option linter.unusedVariables false
set_option linter.unusedSimpArgs false
attribute [local go_sem] Oper.semAt_some

theorem info_sl : (Try.prog.info? 23).map (fun i => (i.zero, i.size, i.bytes)) = some (some (.slice none 0 0), 1, 24) := by kernel_rfl
/-- What holds between two rounds. -/
def PI (w : World) (z : Nat) (ps : List Ins) (pre : List Yl) (W : World) : Prop :=
  (∃ v, Blk W w.heap.size 63 #[v] ∧ W.ownsRow (w.heap.size + 2) 23 1 v pre.length (pre.map Yl.val)) ∧ (∀ y ∈ pre, YG ps y W) ∧ Below w.heap.size w W ∧ z ≤ W.heap.size
theorem PI_own (w : World) (z : Nat) (hz : w.heap.size ≤ z) (ps : List Ins) : OwnFrom z (PI w z ps) := fun pre W W' row ⟨⟨v, h1, h2⟩, h3, h4, h5⟩ hg hr =>
  ⟨⟨v, blk_noncells h1 hg fun r e => (hr r e).2, own_noncells h2 hg fun r e => (hr r e).2⟩, fun y hy => let ⟨h, ho⟩ := h3 y hy; ⟨h, own_noncells ho hg fun r e => (hr r e).2⟩,
    h4.grown hg h4.size (fun r e => Nat.le_trans hz (hr r e).1), Nat.le_trans h5 hg.size⟩
theorem yl_one (pre : List Yl) : ∀ u ∈ pre.map Yl.val, u.oneCell' = true := fun u hu => by
  obtain ⟨y, _, rfl⟩ := List.mem_map.1 hu
  rfl
/-- The rows that were yielded, as rows to be put one behind the other. -/
def yls (ps : List Ins) (xs : List Yl) : List Sl := xs.map fun y => ⟨y.A, 8, y.c, (ps.getD y.i zeroI).bytes⟩
theorem yls_val (ps : List Ins) (xs : List Yl) : (yls ps xs).map Sl.val = xs.map Yl.val := by simp [yls, Sl.val, Yl.val]
theorem yls_ok {W : World} {ps : List Ins} {xs : List Yl} (h : ∀ y ∈ xs, YG ps y W) : ∀ s ∈ yls ps xs, s.ok W := fun s hs => by
  obtain ⟨y, hy, rfl⟩ := List.mem_map.1 hs
  obtain ⟨hi, ho⟩ := h y hy
  rw [List.getD_eq_getElem?_getD, List.getElem?_eq_getElem hi]
  exact ⟨bytes_len _, own_inM ho⟩
theorem tot_yls (ps : List Ins) : ∀ xs : List Yl, tot (yls ps xs) = 8 * xs.length
  | [] => rfl
  | y :: xs => by
    have := tot_yls ps xs
    simp only [yls, List.map_cons, tot, List.length_cons] at this ⊢
    omega
theorem flat_yls (ps : List Ins) : ∀ xs : List Yl, flat (yls ps xs) = pb ((xs.map (·.i)).map fun i => ps.getD i zeroI)
  | [] => rfl
  | y :: xs => by
    have := flat_yls ps xs
    simp only [yls, List.map_cons, flat, pb, List.flatMap_cons] at this ⊢
    rw [this]
theorem range_getD (ps : List Ins) : (List.range ps.length).map (fun i => ps.getD i zeroI) = ps := by
  apply List.ext_getElem
  · simp
  · intro i h1 h2
    simp only [List.getElem_map, List.getElem_range]
    rw [List.getD_eq_getElem?_getD, List.getElem?_eq_getElem h2]
    rfl

set_option maxHeartbeats 2000000 in
set_option maxRecDepth 100000 in
theorem print_in (A : Option Addr) (n c : Nat) (ps : List Ins) (w : World) (hp : ps.length = n) (hn : n ≤ 4096) (hok : ∀ i ∈ ps, i.ok) (hM : InM w A (pc ps)) :
    CallsIn .wide 3 Try.prog 53 #[.slice A n c] w fun e w' => ∃ P c', e = .returned (.tuple #[.slice P (8 * n) c', .int .i64 0]) ∧ w'.ownsRow w.heap.size 5 1 (.slice P (8 * n) c') (8 * n) (nums .u8 (pb ps)) ∧ Ext w w' := by
  have d1 : decide (4096 < (n : Int)) = false := by simp; omega
  have HP := Lib.hid hp
  have hA : 0 < n → ∀ a, A = some a → a.block < w.heap.size := fun h a e => by
    obtain ⟨b, o, e2, hb⟩ := prog_some hM (by omega)
    rw [e] at e2
    injection e2 with e2
    subst e2
    exact hb
  refine callsIn_of_wp_marks Try.func53 rfl trivial ?_ rfl
  simp only [Try.ntmps53, List.size_toArray, List.length_cons, List.length_nil, Nat.reduceAdd, Nat.reduceSub, Array.replicate_succ, Array.replicate_zero, List.push_toArray, List.append_toArray, List.nil_append, List.cons_append]
  gi_wp2_with (refine ⟨trivial, ?_⟩; gi_at_call 78; refine (each_in A n c _).mono ?_; rintro e w' ⟨rfl, rfl⟩)
  have bO : Blk ((w.alloc (.cells #[.slice none 0 0] 63)).alloc (.cells #[.slice A n c] 67)) w.heap.size 63 #[.slice none 0 0] := (Blk.new w _ _).alloc _
  have bS : Blk ((w.alloc (.cells #[.slice none 0 0] 63)).alloc (.cells #[.slice A n c] 67)) (w.heap.size + 1) 67 #[.slice A n c] := Blk.new_ (by simp)
  have hB0 : Below w.heap.size w ((w.alloc (.cells #[.slice none 0 0] 63)).alloc (.cells #[.slice A n c] 67)) := ((Ext.refl w).alloc _).alloc _
  have hz : ((w.alloc (.cells #[.slice none 0 0] 63)).alloc (.cells #[.slice A n c] 67)).heap.size = w.heap.size + 2 := by simp
  generalize (w.alloc (.cells #[.slice none 0 0] 63)).alloc (.cells #[.slice A n c] 67) = w0 at *
  have hM0 : InM w0 A (pc ps) := hM.ext hB0
  refine rangeFunc_tells rfl (by decide) (gf := 87) (lb := #[.pointer (some ⟨w.heap.size + 1, 0, none⟩)]) rfl trivial (enters_of Try.func87 (by kernel_rfl) rfl)
    (each_tells (w.heap.size + 1) n c A ps HP.out (by omega) hok w.heap.size hA w0 bS.lt (by omega) (by rw [bS.cell]; rfl) hM0) (fun h k => h.trans k)
    (fun W l o o' hl h hc hw => belowK_b (w := w0) (by omega) W l o o' hl h hc hw) (Below.refl _ _) (fun _ => rfl)
    (fun x W l o o' hG hl hc => let ⟨h, ho⟩ := hG; ⟨h, ownsRow_putObj ho o' hl hc⟩)
    (PI w w0.heap.size ps) (PI_own w w0.heap.size (by omega) ps)
    ⟨⟨_, bO, World.ownsRow_nil _ _ _ _⟩, (fun y hy => by cases hy), hB0, Nat.le_refl _⟩
    (fun y : Yl => { tmps := #[.slice A n c, undef, .slice none 0 0, .int .i64 0, .pointer (some ⟨w.heap.size, 0, none⟩), .slice y.A 8 y.c, .slice A n c, .int .i64 n, .bool false, .slice A n c, .func (.func 87) #[] #[.pointer (some ⟨w.heap.size + 1, 0, none⟩)], .slice y.A 8 y.c, undef, undef, undef, undef, undef, undef], defers := [] }) ?assign ?body ?done
  case assign =>
    intro l y W K hK
    gi_wp2
    exact hK
  case body =>
    rintro l pre ⟨yi, yA, yc⟩ W ⟨⟨v, hv, hrow⟩, hys, hB, hW0⟩ hG hlt
    have hc := hv.cell 0
    have hE : Ext w W := hB
    have hb1 : pre.length + 1 ≤ maxLen := by unfold maxLen; omega
    have hb2 : (pre.length + 1) * 24 ≤ 140737488355328 := by omega
    obtain ⟨i0, hi, hz0, hz1, hz2⟩ := info_parts info_sl
    have HI := Lib.hid hi; have HZ0 := Lib.hid hz0; have HZ1 := Lib.hid hz1; have HZ2 := Lib.hid hz2
    clear hi hz0 hz1 hz2 bO bS hM0 hM hok
    have hz3 : w.heap.size + 2 ≤ (W.alloc (.cells #[.slice yA 8 yc] 23)).heap.size := by simp; omega
    have hr3 := hrow.alloc (.cells #[.slice yA 8 yc] 23)
    dsimp only
    gi_wp2_with (gi_at_builtin; refine wpListIn_append_own _ rfl _ _ 63 rfl (w.heap.size + 2) 23 i0 _ 1 24 Try.underlying63 HI.out HZ0.out HZ1.out HZ2.out rfl (by decide) _ _ _ rfl hr3 ⟨W.heap.size, 0, none⟩ 1 1 [.slice yA 8 yc] rfl rfl (fun j u hj => (InM.ofBlk (Blk.new_ rfl) rfl : InM _ (some ⟨W.heap.size, 0, none⟩) [Value.slice yA 8 yc]).add hj) (by simp [Value.oneCell']) hb1 hb2 hz3 ?_; intro v' w1 hown' hgrow _; obtain ⟨g', cap', rfl⟩ := ownsRow_succ hown'; have hv4 : Blk w1 w.heap.size 63 #[v] := (hv.alloc _).grown hgrow (fun e => by have := (hr3.lt _ e.symm).1; omega); have hc4 := hv4.cell 0; have hf4 := hv4.frozen 0)
    have hfar : ∀ k, v.ownBlock = some k → w.heap.size + 2 ≤ k := fun k e => (hr3.lt k e).1
    have hg2 := grownBy_setCell' w1 w.heap.size (.slice (some ⟨g', 0, none⟩) (pre.length + 1) cap')
    have hx4 := (Ext.refl W).alloc (.cells #[.slice yA 8 yc] 23)
    have hBx : Below w.heap.size w (w1.setCell ⟨w.heap.size, 0, none⟩ (.slice (some ⟨g', 0, none⟩) (pre.length + 1) cap')) := (Ext.set ((hE.trans hx4).grown hgrow (fun k e => by have := hfar k e; omega)) (Nat.le_refl _) _)
    have hBW : Below w.heap.size W (w1.setCell ⟨w.heap.size, 0, none⟩ (.slice (some ⟨g', 0, none⟩) (pre.length + 1) cap')) := (((hx4.below hE.size).grown hgrow (Nat.le_trans hE.size hx4.size) (fun k e => by have := hfar k e; omega)).setCell (Nat.le_refl _) _)
    have hYG : ∀ y : Yl, YG ps y W → YG ps y (w1.setCell ⟨w.heap.size, 0, none⟩ (.slice (some ⟨g', 0, none⟩) (pre.length + 1) cap')) := fun y ⟨h, ho⟩ => ⟨h, own_apart_blk (own_apart (ho.alloc _) hr3 (by decide) hgrow) hv4 (by decide) hg2⟩
    refine ⟨KeepsFrom.trans (KeepsOthers.from ⟨hx4.size, fun k o hk _ => (hx4.block (Array.getElem?_eq_some_iff.1 hk).1).trans hk⟩ _) (KeepsFrom.trans (KeepsOthers.from (KeepsOthers.of_grownBy hgrow ?_) _) ((KeepsOthers.setCell _ _ _).from _)), hBW, ⟨⟨_, hv4.set_ 0 _, ?_⟩, ?_, hBx, ?_⟩⟩
    · intro j o e ho
      rcases hr3.2 with ⟨rfl, _⟩ | ⟨g, cap, cur, rfl, _, hgb, _⟩
      · cases e
      · cases e
        rw [hgb] at ho
        cases ho
        rfl
    · have := hown'.kept hg2 (.inr (fun e => by have := (hown'.lt _ e).1; omega))
      simp only [List.map_append, List.map_cons, List.map_nil, List.length_append, List.length_cons, List.length_nil, Nat.zero_add]
      exact this
    · intro y hy
      rcases List.mem_append.1 hy with h | h
      · exact hYG y (hys y h)
      · obtain rfl := List.mem_singleton.1 h
        exact hYG _ hG
    · exact Nat.le_trans hW0 (Nat.le_trans hx4.size (Nat.le_trans hgrow.size hg2.size))
  case done =>
    rintro D xs W hD hxs ⟨⟨v, hv, hrow⟩, hys, hB, _⟩ hK
    have hc := hv.cell 0
    have hyl : xs.length = n := by have := congrArg List.length hxs; simpa using this
    obtain ⟨P, c', rfl⟩ : ∃ P c', v = .slice P n c' := by
      rcases hrow.2 with ⟨hv, h0⟩ | ⟨g, cap, cur, hv, _⟩
      · exact ⟨none, 0, by rw [hv, ← hyl, h0]⟩
      · exact ⟨_, _, by rw [hv, hyl]⟩
    have hMl : InM W P ((yls ps xs).map Sl.val) := by
      rw [yls_val]
      rw [hyl] at hrow
      exact own_inM hrow
    have HC := Lib.hid (cat_any P n c' (yls ps xs) W (by simp [yls, hyl]) hMl (yls_ok hys) (by rw [tot_yls]; omega) (by omega))
    rw [tot_yls, hyl, flat_yls, hxs, ← HP.out, range_getD, HP.out] at HC
    clear hMl hys hrow hyl hxs
    gi_wp2_with (refine ⟨trivial, ?_⟩; gi_at_call 45; refine ((callsIn_wide (n := 2)).2 HC.out).mono ?_; rintro e w2 ⟨Q, q, rfl, ho2, hx2⟩)
    have hK2 := (hx2.block (Array.getElem?_eq_some_iff.1 hK).1).trans hK
    refine ⟨by simp, .inl ⟨_, _, rfl, run_takeDeferred hK2, ?_⟩⟩
    exact ⟨_, results_tmp2 rfl _ _ _, Q, q, rfl, own_lower (ownsRow_putObj ho2 _ hK2 rfl) hB.size, Below.trans (show Below w.heap.size w w2 from Ext.trans hB hx2) (belowK_b (w := w) (Nat.le_refl _) w2 D _ _ (by omega) hK2 rfl rfl)⟩
theorem printI (A : Option Addr) (n c : Nat) (ps : List Ins) (w : World) (hp : ps.length = n) (hn : n ≤ 4096) (hok : ∀ i ∈ ps, i.ok) (hM : InM w A (pc ps)) :
    Calls Try.prog 53 #[.slice A n c] w fun e w' => ∃ P c', e = .returned (.tuple #[.slice P (8 * n) c', .int .i64 0]) ∧ w'.ownsRow w.heap.size 5 1 (.slice P (8 * n) c') (8 * n) (nums .u8 (pb ps)) ∧ Ext w w' :=
  callsIn_wide.1 (print_in A n c ps w hp hn hok hM)
theorem print_long (A : Option Addr) (n c : Nat) (w : World) (hn : 4096 < n) :
    Calls Try.prog 53 #[.slice A n c] w fun e w' => e = .returned (.tuple #[.slice none 0 0, .int .i64 3]) ∧ Ext w w' := by
  have d1 : decide (4096 < (n : Int)) = true := by simp; omega
  clear hn
  go_enter Try.func53, Try.ntmps53
  go_wp2
  go_ret2
  first | exact ⟨rfl, Ext.refl _⟩ | exact ⟨rfl, (Ext.refl _).alloc _⟩
end Go.Proofs.Ytlicndonhmcmmaa
