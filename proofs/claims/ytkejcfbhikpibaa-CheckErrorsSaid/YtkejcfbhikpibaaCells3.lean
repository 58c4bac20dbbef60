import Derived.Test.YtkejcfbhikpibaaCells2
import Derived.Maps.OwnIn
/- slices.Collect of the ways; cells.Next. -/
namespace Go.Proofs.Ytkejcfbhikpibaa
open Go.RowKit Go.ChangeShapes Go.WideShapes
set_option linter.unusedVariables false
set_option linter.unusedSimpArgs false
attribute [local go_sem] Oper.semAt_some

theorem ways_in (i : Ins) (a size : Int) (w : World) :
    CallsIn .wide 2 Try.prog 46 #[i.val, .int .i64 a, .int .i64 size] w fun e w' => e = .returned (.func (.func 64) #[] #[.pointer (some ⟨w.heap.size, 0, none⟩), .pointer (some ⟨w.heap.size + 1, 0, none⟩), .pointer (some ⟨w.heap.size + 2, 0, none⟩)]) ∧
      w' = ((w.alloc (.cells i.cells 32)).alloc (.cells #[.int .i64 a] 3)).alloc (.cells #[.int .i64 size] 3) := by
  obtain ⟨co, jt, jf, k⟩ := i
  simp only [Ins.val, Ins.cells]
  refine callsIn_of_wp Try.func46 rfl trivial ?_ rfl
  simp only [Try.ntmps46, List.size_toArray, List.length_cons, List.length_nil, Nat.reduceAdd, Nat.reduceSub, Array.replicate_succ, Array.replicate_zero, List.push_toArray, List.append_toArray, List.nil_append, List.cons_append]
  gi_wp2
  go_ret
  exact ⟨rfl, rfl⟩
theorem ways_tells (s3 s4 s5 : Nat) (i : Ins) (hi : i.ok) (a size : Nat) (ha : a ≤ 100000 ∧ size ≤ 100000) (Own : World → Nat → Prop) (Bd : World → Prop)
    (hlt : ∀ W b, Bd W → Own W b → b < W.heap.size) (hst : ∀ W W' b, Bd W → Ext W W' → Own W' b → Own W b) (hS : ∀ W, Bd W → ¬ Own W s3 ∧ ¬ Own W s4 ∧ ¬ Own W s5)
    (w : World) (h3 : Blk w s3 32 i.cells) (h4 : Blk w s4 3 #[.int .i64 a]) (h5 : Blk w s5 3 #[.int .i64 size]) :
    TellsB .wide 2 Try.prog 64 #[.pointer (some ⟨s3, 0, none⟩), .pointer (some ⟨s4, 0, none⟩), .pointer (some ⟨s5, 0, none⟩)] (fun x : Int => #[.int .i64 x]) (fun x _ => x ∈ wayL i a size) (KpO Own) Bd (fun xs => xs = wayL i a size) 2 w := fun l J W hW hJ hBd hY h0 =>
  ways1_in l s3 s4 s5 W.heap.size i hi a size ha Own Bd J hJ hBd hlt hst hS (fun pre x W hj hl hx => hY pre x W hj hx hl) W (h3.below hW h3.lt) (h4.below hW h4.lt) (h5.below hW h5.lt) h0

/-- The body's own blocks: a box, and the row that it holds. -/
def BoxOwn (g : Nat) (W : World) (b : Nat) : Prop := b = g ∨ ∃ v, W.cell? ⟨g, 0, none⟩ = some v ∧ v.ownBlock = some b
def BoxBd (g lo : Nat) (t : TypeId) (W : World) : Prop := g < lo ∧ ∃ v, Blk W g t #[v] ∧ ∀ r, v.ownBlock = some r → lo ≤ r ∧ r < W.heap.size
theorem boxOwn_of {g lo : Nat} {t : TypeId} {W : World} {v : Value} (h : Blk W g t #[v]) {b : Nat} : BoxOwn g W b ↔ b = g ∨ v.ownBlock = some b := by
  unfold BoxOwn
  rw [h.cell]
  constructor
  · rintro (h | ⟨u, hu, hb⟩)
    · exact .inl h
    · cases hu; exact .inr hb
  · rintro (h | h)
    · exact .inl h
    · exact .inr ⟨v, rfl, h⟩
theorem box_lt {g lo : Nat} {t : TypeId} (W : World) (b : Nat) (h : BoxBd g lo t W) (k : BoxOwn g W b) : b < W.heap.size := by
  obtain ⟨_, v, hv, hr⟩ := h
  rcases (boxOwn_of (lo := lo) hv).1 k with rfl | k
  · exact hv.lt
  · exact (hr b k).2
theorem box_st {g lo : Nat} {t : TypeId} (W W' : World) (b : Nat) (h : BoxBd g lo t W) (e : Ext W W') (k : BoxOwn g W' b) : BoxOwn g W b := by
  obtain ⟨_, v, hv, hr⟩ := h
  exact (boxOwn_of (lo := lo) hv).2 ((boxOwn_of (lo := lo) (hv.ext e)).1 k)
theorem box_not {g lo : Nat} {t : TypeId} {W : World} (h : BoxBd g lo t W) {s : Nat} (hs : s < lo) (hne : s ≠ g) : ¬ BoxOwn g W s := fun k => by
  obtain ⟨_, v, hv, hr⟩ := h
  rcases (boxOwn_of (lo := lo) hv).1 k with h | k
  · exact hne h
  · have := (hr s k).1
    omega
theorem info_int : (Try.prog.info? 3).map (fun i => (i.zero, i.size, i.bytes)) = some (some (.int .i64 0), 1, 8) := by kernel_rfl

/-- What holds between two rounds of a loop that collects numbers. -/
def CI (w : World) (z g : Nat) (pre : List Int) (W : World) : Prop :=
  (∃ v, Blk W g 41 #[v] ∧ W.ownsRow (g + 1) 3 1 v pre.length (nums .i64 pre)) ∧ Below w.heap.size w W ∧ z ≤ W.heap.size
theorem CI_own (w : World) (z g : Nat) (hz : w.heap.size ≤ z) : OwnFrom z (CI w z g) := fun pre W W' row ⟨⟨v, h1, h2⟩, h4, h5⟩ hg hr =>
  ⟨⟨v, blk_noncells h1 hg fun r e => (hr r e).2, own_noncells h2 hg fun r e => (hr r e).2⟩, h4.grown hg h4.size (fun r e => Nat.le_trans hz (hr r e).1), Nat.le_trans h5 hg.size⟩
theorem CI_bd {w : World} {z g : Nat} (pre : List Int) (W : World) (h : CI w z g pre W) : BoxBd g (g + 1) 41 W := by
  obtain ⟨⟨v, h1, h2⟩, _, _⟩ := h
  exact ⟨by omega, v, h1, fun r hr => h2.lt r hr⟩

set_option maxHeartbeats 2000000 in
set_option maxRecDepth 100000 in
theorem appendSeq_in (s3 s4 s5 : Nat) (i : Ins) (hi : i.ok) (a size : Nat) (ha : a ≤ 100000 ∧ size ≤ 100000) (w : World) (h3 : Blk w s3 32 i.cells) (h4 : Blk w s4 3 #[.int .i64 a]) (h5 : Blk w s5 3 #[.int .i64 size]) :
    CallsIn .wide 3 Try.prog 63 #[.slice none 0 0, .func (.func 64) #[] #[.pointer (some ⟨s3, 0, none⟩), .pointer (some ⟨s4, 0, none⟩), .pointer (some ⟨s5, 0, none⟩)]] w fun e w' =>
      ∃ P c', e = .returned (.slice P (wayL i a size).length c') ∧ w'.ownsRow w.heap.size 3 1 (.slice P (wayL i a size).length c') (wayL i a size).length (nums .i64 (wayL i a size)) ∧ Ext w w' := by
  refine callsIn_of_wp_marks Try.func63 rfl trivial ?_ rfl
  simp only [Try.ntmps63, List.size_toArray, List.length_cons, List.length_nil, Nat.reduceAdd, Nat.reduceSub, Array.replicate_succ, Array.replicate_zero, List.push_toArray, List.append_toArray, List.nil_append, List.cons_append]
  have l3 := h3.lt
  have l4 := h4.lt
  have l5 := h5.lt
  have hW0 : Below w.heap.size w (w.alloc (.cells #[.slice none 0 0] 41)) := (Ext.refl w).alloc _
  have bO : Blk (w.alloc (.cells #[.slice none 0 0] 41)) w.heap.size 41 #[.slice none 0 0] := Blk.new _ _ _
  have hz : (w.alloc (.cells #[.slice none 0 0] 41)).heap.size = w.heap.size + 1 := by simp
  have k3 := h3.alloc (.cells #[.slice none 0 0] 41)
  have k4 := h4.alloc (.cells #[.slice none 0 0] 41)
  have k5 := h5.alloc (.cells #[.slice none 0 0] 41)
  clear h3 h4 h5
  gi_wp2_with fail
  generalize w.alloc (.cells #[.slice none 0 0] 41) = w0 at *
  refine rangeFunc_tellsB rfl (by decide) (gf := 64) (lb := #[.pointer (some ⟨s3, 0, none⟩), .pointer (some ⟨s4, 0, none⟩), .pointer (some ⟨s5, 0, none⟩)]) rfl trivial (enters_of Try.func64 (by kernel_rfl) rfl)
    (ways_tells s3 s4 s5 i hi a size ha (BoxOwn w.heap.size) (BoxBd w.heap.size (w.heap.size + 1) 41) box_lt box_st (fun W hb => ⟨box_not hb (by omega) (by omega), box_not hb (by omega) (by omega), box_not hb (by omega) (by omega)⟩) w0 k3 k4 k5)
    (fun h k => h.trans k)
    (fun W l o o' hl h hc hw b cs t hb ho => ?kb) (Below.refl _ _) (fun _ => rfl)
    (fun x W l o o' hG hl hc => hG)
    (CI w w0.heap.size w.heap.size) CI_bd (CI_own w w0.heap.size w.heap.size (by omega))
    ⟨⟨_, bO, World.ownsRow_nil _ _ _ _⟩, hW0, Nat.le_refl _⟩
    (fun x : Int => { tmps := #[.slice none 0 0, .func (.func 64) #[] #[.pointer (some ⟨s3, 0, none⟩), .pointer (some ⟨s4, 0, none⟩), .pointer (some ⟨s5, 0, none⟩)], .pointer (some ⟨w.heap.size, 0, none⟩), undef, .slice none 0 0, .int .i64 x, .func (.func 64) #[] #[.pointer (some ⟨s3, 0, none⟩), .pointer (some ⟨s4, 0, none⟩), .pointer (some ⟨s5, 0, none⟩)], .int .i64 x, undef, undef, undef, undef, undef], defers := [] }) ?assign ?body ?done
  case kb =>
    have hne : b ≠ l := fun e => by
      subst e
      unfold Blk at hb
      rw [h] at hb
      injection hb with hb
      subst hb
      cases hc
    have hg := grownBy_putObj' W l o'
    refine ⟨hb.grown hg (fun e => by injection e with e; exact hne e), fun k => ho ?_⟩
    rcases k with k | ⟨v, hv, hb2⟩
    · exact .inl k
    · refine .inr ⟨v, ?_, hb2⟩
      have hcell : (W.putObj l o').cell? ⟨w.heap.size, 0, none⟩ = W.cell? ⟨w.heap.size, 0, none⟩ := by
        have hlW : l < W.heap.size := (Array.getElem?_eq_some_iff.1 h).1
        exact cell_of_heap (hg.block _ (by omega) (fun e' => by injection e' with e'; omega))
      rw [← hcell]
      exact hv
  case assign =>
    intro l y W K hK
    gi_wp2
    exact hK
  case body =>
    rintro l pre x W ⟨⟨v, hv, hrow⟩, hB, hW0'⟩ hG hlt
    have hc := hv.cell 0
    have hE : Ext w W := hB
    have hb1 : pre.length + 1 ≤ maxLen := by unfold maxLen; omega
    have hb2 : (pre.length + 1) * 8 ≤ 140737488355328 := by omega
    obtain ⟨i0, hi, hz0, hz1, hz2⟩ := info_parts info_int
    have HI := Lib.hid hi; have HZ0 := Lib.hid hz0; have HZ1 := Lib.hid hz1; have HZ2 := Lib.hid hz2
    clear hi hz0 hz1 hz2 bO k3 k4 k5
    have hz3 : w.heap.size + 1 ≤ (W.alloc (.cells #[.int .i64 x] 3)).heap.size := by simp; omega
    have hr3 := hrow.alloc (.cells #[.int .i64 x] 3)
    gi_wp2_with (gi_at_builtin; (refine wpListIn_append_own_at _ rfl (.tmp 8) (.tmp 10) 41 rfl (w.heap.size + 1) 3 i0 _ 1 8 Try.underlying41 HI.out HZ0.out HZ1.out HZ2.out rfl (by decide) _ _ _ rfl hr3 ⟨W.heap.size, 0, none⟩ 1 1 [.int .i64 x] rfl rfl (fun j u hj => (InM.ofBlk (Blk.new_ rfl) rfl : InM _ (some ⟨W.heap.size, 0, none⟩) [Value.int .i64 x]).add hj) (by simp [Value.oneCell']) hb1 hb2 hz3 ?_); intro v' w1 hown' hgrow _ hwh; obtain ⟨g', cap', rfl⟩ := ownsRow_succ hown'; have hv4 : Blk w1 w.heap.size 41 #[v] := (hv.alloc _).grown hgrow (fun e => by have := (hr3.lt _ e.symm).1; omega); have hc4 := hv4.cell 0; have hf4 := hv4.frozen 0)
    have hfar : ∀ k, v.ownBlock = some k → w.heap.size + 1 ≤ k := fun k e => (hr3.lt k e).1
    have hg2 := grownBy_setCell' w1 w.heap.size (.slice (some ⟨g', 0, none⟩) (pre.length + 1) cap')
    have hx4 := (Ext.refl W).alloc (.cells #[.int .i64 x] 3)
    have hBx : Below w.heap.size w (w1.setCell ⟨w.heap.size, 0, none⟩ (.slice (some ⟨g', 0, none⟩) (pre.length + 1) cap')) := (Ext.set ((hE.trans hx4).grown hgrow (fun k e => by have := hfar k e; omega)) (Nat.le_refl _) _)
    refine ⟨KeepsFrom.trans (KeepsOthers.from ⟨hx4.size, fun k o hk _ => (hx4.block (Array.getElem?_eq_some_iff.1 hk).1).trans hk⟩ _) (KeepsFrom.trans (KeepsOthers.from (KeepsOthers.of_grownBy hgrow ?_) _) ((KeepsOthers.setCell _ _ _).from _)), ?_, ⟨⟨_, hv4.set_ 0 _, ?_⟩, hBx, ?_⟩⟩
    · intro j o e ho
      rcases hr3.2 with ⟨rfl, _⟩ | ⟨g, cap, cur, rfl, _, hgb, _⟩
      · cases e
      · cases e
        rw [hgb] at ho
        cases ho
        rfl
    · intro b cs t hb ho
      have hne1 : b ≠ w.heap.size := fun e => ho (.inl e)
      have hne2 : v.ownBlock ≠ some b := fun e => ho (.inr ⟨v, by rw [hv.cell]; rfl, e⟩)
      have hbl := hb.lt
      refine ⟨((hb.alloc _).grown hgrow (fun e => hne2 e.symm)).far hne1 _, fun k => ?_⟩
      rcases (boxOwn_of (lo := 0) (hv4.set_ 0 (.slice (some ⟨g', 0, none⟩) (pre.length + 1) cap'))).1 k with e | e
      · exact hne1 e
      · rcases hwh with h | h
        · exact hne2 (h.symm.trans e)
        · have : some b = some (W.heap.size + 1) := by rw [← e]; exact h.trans (by simp)
          injection this with this
          omega
    · have := hown'.kept hg2 (.inr (fun e => by have := (hown'.lt _ e).1; omega))
      simp only [List.length_append, List.length_cons, List.length_nil, Nat.zero_add]
      rw [nums_append]
      exact this
    · exact Nat.le_trans hW0' (Nat.le_trans hx4.size (Nat.le_trans hgrow.size hg2.size))
  case done =>
    rintro D xs W hD hxs ⟨⟨v, hv, hrow⟩, hB, _⟩ hK
    have hc := hv.cell 0
    subst hxs
    obtain ⟨P, c', rfl⟩ : ∃ P c', v = .slice P (wayL i a size).length c' := by
      rcases hrow.2 with ⟨hv, h0⟩ | ⟨g, cap, cur, hv, _⟩
      · exact ⟨none, 0, by rw [hv, h0]⟩
      · exact ⟨_, _, hv⟩
    gi_wp2
    refine ⟨by simp, .inl ⟨_, _, rfl, run_takeDeferred hK, ?_⟩⟩
    exact ⟨_, results_tmp rfl _ _ _, P, c', rfl, own_lower (ownsRow_putObj hrow _ hK rfl) (Nat.le_succ _), Below.trans hB (belowK_b (w := w) (Nat.le_refl _) W D _ _ (by omega) hK rfl rfl)⟩

theorem collect_in (s3 s4 s5 : Nat) (i : Ins) (hi : i.ok) (a size : Nat) (ha : a ≤ 100000 ∧ size ≤ 100000) (w : World) (h3 : Blk w s3 32 i.cells) (h4 : Blk w s4 3 #[.int .i64 a]) (h5 : Blk w s5 3 #[.int .i64 size]) :
    CallsIn .wide 4 Try.prog 45 #[.func (.func 64) #[] #[.pointer (some ⟨s3, 0, none⟩), .pointer (some ⟨s4, 0, none⟩), .pointer (some ⟨s5, 0, none⟩)]] w fun e w' =>
      ∃ P c', e = .returned (.slice P (wayL i a size).length c') ∧ w'.ownsRow w.heap.size 3 1 (.slice P (wayL i a size).length c') (wayL i a size).length (nums .i64 (wayL i a size)) ∧ Ext w w' := by
  have H := Lib.hid (appendSeq_in s3 s4 s5 i hi a size ha w h3 h4 h5)
  clear h3 h4 h5
  generalize wayL i a size = xs at *
  refine callsIn_of_wp Try.func45 rfl trivial ?_ rfl
  simp only [Try.ntmps45, List.size_toArray, List.length_cons, List.length_nil, Nat.reduceAdd, Nat.reduceSub, Array.replicate_succ, Array.replicate_zero, List.push_toArray, List.append_toArray, List.nil_append, List.cons_append]
  gi_wp2_with (refine ⟨trivial, ?_⟩; gi_at_call 63; refine (H.out).mono ?_; rintro e w1 ⟨P, c', rfl, ho, hx⟩)
  go_ret
  exact ⟨P, c', rfl, ho, hx⟩

/-- cells.Next's answer. -/
def nextL (ps : List Ins) (a : Int) : List Int :=
  if a < 0 ∨ (ps.length : Int) ≤ a ∨ 4096 < ps.length then [] else wayL (ps.getD a.toNat zeroI) a ps.length
set_option maxRecDepth 100000 in
theorem nextI (A : Option Addr) (n c : Nat) (ps : List Ins) (a : Int) (w : World) (hp : ps.length = n) (hb : n ≤ 100000) (hok : ∀ i ∈ ps, i.ok) (hM : InM w A (pc ps)) :
    Calls Try.prog 28 #[.slice A n c, .int .i64 a] w fun e w' => ∃ P c', e = .returned (.slice P (nextL ps a).length c') ∧ w'.ownsRow w.heap.size 3 1 (.slice P (nextL ps a).length c') (nextL ps a).length (nums .i64 (nextL ps a)) ∧ Ext w w' := by
  by_cases hc : a < 0 ∨ (n : Int) ≤ a ∨ 4096 < n
  · have hr : nextL ps a = [] := by unfold nextL; rw [if_pos (by rw [hp]; exact hc)]
    rw [hr]
    have h1 : World.ownsRow w w.heap.size 3 1 (.slice none 0 0) 0 (nums .i64 []) := World.ownsRow_nil _ _ _ _
    clear hr hp hok hM
    go_enter Try.func28, Try.ntmps28
    by_cases h0 : a < 0
    · clear hc
      go_wp2
      go_ret
      exact ⟨none, 0, rfl, h1, Ext.refl _⟩
    by_cases h2 : (n : Int) ≤ a
    · clear hc
      go_wp2
      go_ret
      exact ⟨none, 0, rfl, h1, Ext.refl _⟩
    have h3 : (4096 : Int) < n := by omega
    clear hc
    go_wp2
    go_ret
    exact ⟨none, 0, rfl, h1, Ext.refl _⟩
  · obtain ⟨k, rfl⟩ : ∃ k : Nat, a = (k : Int) := ⟨a.toNat, by omega⟩
    have hk : k < ps.length := by omega
    have hr : nextL ps k = wayL ps[k] k n := by
      unfold nextL
      rw [if_neg (by rw [hp]; exact hc), Int.toNat_natCast, List.getD_eq_getElem?_getD, List.getElem?_eq_getElem hk, hp]
      rfl
    rw [hr]
    obtain ⟨b1, o1, rfl, _⟩ := prog_some hM (by omega)
    have c1 := Lib.hid (fun (W' : World) (h : Ext w W') => prog_cells (hM.ext h) hk)
    have hik := hok _ (List.getElem_mem hk)
    have H1 := Lib.hid (fun W => callsIn_wide.1 (ways_in (ps[k]'hk) k n W))
    have H2 := Lib.hid (fun s3 s4 s5 W h3 h4 h5 => callsIn_wide.1 (collect_in s3 s4 s5 (ps[k]'hk) hik k n (by omega) W h3 h4 h5))
    obtain ⟨q0, q1, q2, q3⟩ := c1.out w (Ext.refl _)
    clear hr c1 hM hok
    generalize wayL ps[k] k n = xs at *
    generalize ps[k] = P at *
    obtain ⟨co, jt, jf, kk⟩ := P
    simp only [Ins.val, Ins.cells] at H1 H2
    have b2 : (0 : Int) ≤ k := by omega
    have b3 : (k : Int) < n := by omega
    have b4 : ¬ (4096 : Int) < n := by omega
    clear hc hik hp hk
    go_enter Try.func28, Try.ntmps28
    go_wp2_with fail
    refine (H1.out _).mono ?_
    rintro e w1 ⟨rfl, rfl⟩
    have B3 : Blk (((w.alloc (.cells #[.int .u16 co, .int .u8 jt, .int .u8 jf, .int .u32 kk] 32)).alloc (.cells #[.int .i64 k] 3)).alloc (.cells #[.int .i64 n] 3)) w.heap.size 32 #[.int .u16 co, .int .u8 jt, .int .u8 jf, .int .u32 kk] := ((Blk.new w _ _).alloc _).alloc _
    have B4 : Blk (((w.alloc (.cells #[.int .u16 co, .int .u8 jt, .int .u8 jf, .int .u32 kk] 32)).alloc (.cells #[.int .i64 k] 3)).alloc (.cells #[.int .i64 n] 3)) (w.heap.size + 1) 3 #[.int .i64 k] := (Blk.new_ (by simp)).alloc _
    have B5 : Blk (((w.alloc (.cells #[.int .u16 co, .int .u8 jt, .int .u8 jf, .int .u32 kk] 32)).alloc (.cells #[.int .i64 k] 3)).alloc (.cells #[.int .i64 n] 3)) (w.heap.size + 2) 3 #[.int .i64 n] := Blk.new_ (by simp)
    have hx0 : Ext w (((w.alloc (.cells #[.int .u16 co, .int .u8 jt, .int .u8 jf, .int .u32 kk] 32)).alloc (.cells #[.int .i64 k] 3)).alloc (.cells #[.int .i64 n] 3)) := (((Ext.refl w).alloc _).alloc _).alloc _
    generalize ((w.alloc (.cells #[.int .u16 co, .int .u8 jt, .int .u8 jf, .int .u32 kk] 32)).alloc (.cells #[.int .i64 k] 3)).alloc (.cells #[.int .i64 n] 3) = w0 at *
    go_wp2_with fail
    refine (H2.out _ _ _ _ B3 B4 B5).mono ?_
    rintro e w1 ⟨P, c', rfl, ho, hx⟩
    go_wp2
    go_ret
    exact ⟨P, c', rfl, own_lower ho hx0.size, hx0.trans hx⟩
end Go.Proofs.Ytkejcfbhikpibaa
