import Derived.Test.YtlicndonhmcmmaaInsn9
import Derived.Maps.AppendAt
namespace Go.Proofs.Ytlicndonhmcmmaa
open Go.RowKit Go.ChangeShapes Go.WideShapes
set_option linter.unusedVariables false
attribute [local go_sem] Oper.semAt_some

theorem KpB.trans {s t : Nat} {A B C : World} (h : KpB s t A B) (k : KpB s t B C) : KpB s t A C := fun p v hp hv => k p v hp (h p v hp hv)
/-- Piece x of the bytes. -/
def piece (bs : List Int) (x : Nat) : List Int := (bs.drop (8 * x)).take 8
def insC (bs : List Int) (pre : List Nat) : List Value := pre.flatMap fun x => (decI (piece bs x)).cells.toList
theorem insC_snoc (bs : List Int) (pre : List Nat) (x : Nat) : insC bs (pre ++ [x]) = insC bs pre ++ (decI (piece bs x)).cells.toList := by simp [insC]
theorem info_ins : (Try.prog.info? 73).map (fun i => (i.zero, i.size, i.bytes)) = some (some (.agg #[.int .u16 0, .int .u8 0, .int .u8 0, .int .u32 0]), 4, 8) := by kernel_rfl

theorem cell_of_heap {X Y : World} {p : Nat} (h : Y.heap[p]? = X.heap[p]?) : Y.cell? ⟨p, 0, none⟩ = X.cell? ⟨p, 0, none⟩ := by simp only [World.cell?, h]
set_option maxRecDepth 100000 in
theorem parse_in (A : Option Addr) (m n c : Nat) (bs : List Int) (w : World) (hn : n = 8 * m) (hm : m ≤ 4096) (hb : n ≤ c ∧ c ≤ 9223372036854775807 ∧ n ≤ 1000000) (hl : bs.length = n) (hB_ : Byt bs) (hM : InM w A (nums .u8 bs)) :
    CallsIn .wide 3 Try.prog 46 #[.slice A n c] w fun e w' => ∃ P c', e = .returned (.tuple #[.slice P m c', .int .i64 0]) ∧ w'.ownsRow (w.heap.size + 3) 73 4 (.slice P m c') m (insC bs (List.range m)) ∧ Ext w w' := by
  have d1 : ((n : Int) % 8 != 0) = false := by simp; omega
  have d2 : decide (32768 < (n : Int)) = false := by simp; omega
  have hA : 0 < n → ∃ b off, A = some ⟨b, off, none⟩ := fun h => by
    obtain ⟨b, off, e, _⟩ := hM.some_ (by rw [List.length_map]; omega)
    exact ⟨b, off, e⟩
  refine callsIn_of_wp_marks Try.func46 rfl trivial ?_ rfl
  simp only [Try.ntmps46, List.size_toArray, List.length_cons, List.length_nil, Nat.reduceAdd, Nat.reduceSub, Array.replicate_succ, Array.replicate_zero, List.push_toArray, List.append_toArray, List.nil_append, List.cons_append]
  have Hn := Lib.hid hn
  clear hn
  gi_wp2_with (refine ⟨trivial, ?_⟩; gi_at_call 77; refine (chunk_in A n c _).mono ?_; rintro e w' ⟨rfl, rfl⟩)
  have bO : Blk (((w.alloc (.cells #[.slice none 0 0] 67)).alloc (.cells #[.slice A n c] 23)).alloc (.cells #[.int .i64 8] 3)) w.heap.size 67 #[.slice none 0 0] := ((Blk.new w _ _).alloc _).alloc _
  have bS : Blk (((w.alloc (.cells #[.slice none 0 0] 67)).alloc (.cells #[.slice A n c] 23)).alloc (.cells #[.int .i64 8] 3)) (w.heap.size + 1) 23 #[.slice A n c] := (Blk.new_ (by simp)).alloc _
  have bT : Blk (((w.alloc (.cells #[.slice none 0 0] 67)).alloc (.cells #[.slice A n c] 23)).alloc (.cells #[.int .i64 8] 3)) (w.heap.size + 1 + 1) 3 #[.int .i64 8] := Blk.new_ (by simp)
  have hB0 : Below w.heap.size w (((w.alloc (.cells #[.slice none 0 0] 67)).alloc (.cells #[.slice A n c] 23)).alloc (.cells #[.int .i64 8] 3)) := (((Ext.refl w).alloc _).alloc _).alloc _
  have hz : (((w.alloc (.cells #[.slice none 0 0] 67)).alloc (.cells #[.slice A n c] 23)).alloc (.cells #[.int .i64 8] 3)).heap.size = w.heap.size + 3 := by simp
  generalize ((w.alloc (.cells #[.slice none 0 0] 67)).alloc (.cells #[.slice A n c] 23)).alloc (.cells #[.int .i64 8] 3) = w0 at *
  refine wpIn_rangeFunc_ownG rfl (by decide) (gf := 86) (lb := #[.pointer (some ⟨w.heap.size + 1, 0, none⟩), .pointer (some ⟨w.heap.size + 1 + 1, 0, none⟩)]) rfl trivial (enters_of Try.func86 (by kernel_rfl) rfl)
    (chunk_stops (w.heap.size + 1) (w.heap.size + 1 + 1) A m n c Hn.out hb hA w0 bS.lt bT.lt (by rw [bS.cell]; rfl) (by rw [bT.cell]; rfl)) (fun h k => KpB.trans h k)
    (fun W l o o' _ hl hc _ p v _ hv => cell_kept hv (grownBy_putObj' W l o') (fun r e => by cases e; exact ⟨o, hl, hc⟩)) (Below.refl _ _) (fun _ => rfl)
    (fun (pre : List { x : Nat // x < m }) W => (∃ v, Boxed W w.heap.size 67 v ∧ W.ownsRow (w.heap.size + 3) 73 4 v pre.length (insC bs (pre.map (·.1))) ∧ True) ∧ Below w.heap.size w W ∧ w0.heap.size ≤ W.heap.size)
    (fun _ _ _ => False)
    (OwnFrom.and (Own.from (holdsRow_own (w.heap.size + 3) w.heap.size 67 73 4 (fun pre : List { x : Nat // x < m } => pre.length) (fun pre => insC bs (pre.map (·.1))) (fun _ _ => True)) _) (OwnFrom.and (ownFrom_below (Nat.le_refl _) (by rw [hz]; omega)) (fun s X Y row hs hg hr => Nat.le_trans hs hg.size)))
    (fun _ _ _ _ _ hs _ _ => hs)
    ⟨⟨_, bO, World.ownsRow_nil _ _ _ _, trivial⟩, hB0, Nat.le_refl _⟩
    (fun x : { x : Nat // x < m } => { tmps := #[.slice A n c, undef, .slice none 0 0, .int .i64 0, .pointer (some ⟨w.heap.size, 0, none⟩), .slice (adv A (8 * x.1)) 8 8, undef, undef, .bool false, .slice A n c, .int .i64 n, .int .i64 ((n : Int) % 8), .bool false, .bool false, .slice A n c, .int .i64 n, .bool false, .slice A n c, .func (.func 86) #[] #[.pointer (some ⟨w.heap.size + 1, 0, none⟩), .pointer (some ⟨w.heap.size + 1 + 1, 0, none⟩)], .slice (adv A (8 * x.1)) 8 8, undef, undef, undef, undef, undef, undef, undef, undef, undef, undef], defers := [] }) ?assign ?body ?done ?stop
  case assign =>
    intro l x W K hK
    gi_wp2
    exact hK
  case body =>
    rintro l pre ⟨x, hx⟩ W ⟨⟨v, hv, hrow, _⟩, hB, hW0⟩ hlt
    have hE : Ext w W := hB
    have hp : InM W (adv A (8 * x)) (nums .u8 (piece bs x)) := by
      have := Hn.out
      obtain ⟨b, off, rfl⟩ := hA (by omega)
      exact (hM.ext hE).seg (8 * x) 8
    have hpl : (piece bs x).length = 8 := by
      have := Hn.out
      unfold piece
      rw [List.length_take, List.length_drop]
      omega
    have hpb : Byt (piece bs x) := (hB_.drop _).take _
    have HD := Lib.hid (callsIn_wide (n := 0).2 (decode_yes (adv A (8 * x)) 8 (piece bs x) W hpl hpb hp))
    have hc := hv.cell
    have hb1 : pre.length + 1 ≤ maxLen := by unfold maxLen; omega
    have hb2 : (pre.length + 1) * 8 ≤ 140737488355328 := by omega
    have hsn := insC_snoc bs (pre.map (·.1)) x
    generalize decI (piece bs x) = E at *
    obtain ⟨co, jt, jf, kk⟩ := E
    simp only [Ins.val, Ins.cells] at HD hsn
    obtain ⟨i0, hi, hz0, hz1, hz2⟩ := info_parts info_ins
    have HI := Lib.hid hi; have HZ0 := Lib.hid hz0; have HZ1 := Lib.hid hz1; have HZ2 := Lib.hid hz2
    clear hi hz0 hz1 hz2
    dsimp only
    gi_wp2_with (first | (refine ⟨trivial, ?_⟩; gi_at_call 48; refine (CallsIn.inRound l HD.out).mono ?_; rintro e W2 ⟨rfl, hx2⟩; have hc2 := hx2.cell hc; have hc3 := ((Ext.refl W2).alloc (.cells #[.int .u16 co, .int .u8 jt, .int .u8 jf, .int .u32 kk] 73)).cell hc2; have hv2 : Blk W2 w.heap.size 67 #[v] := Blk.ext hv hx2; have hx3 : Ext W2 ((W2.alloc (.cells #[.int .u16 co, .int .u8 jt, .int .u8 jf, .int .u32 kk] 73)).alloc (.cells #[.int .u16 co, .int .u8 jt, .int .u8 jf, .int .u32 kk] 73)) := ((Ext.refl W2).alloc _).alloc _; have hv3 := hv2.ext hx3; have hr3 := own_ext hrow (hx2.trans hx3); have hz3 : w.heap.size + 3 ≤ ((W2.alloc (.cells #[.int .u16 co, .int .u8 jt, .int .u8 jf, .int .u32 kk] 73)).alloc (.cells #[.int .u16 co, .int .u8 jt, .int .u8 jf, .int .u32 kk] 73)).heap.size := Nat.le_trans (by rw [← hz]; exact hW0) (hx2.trans hx3).size) | (gi_at_builtin; refine wpListIn_append_own _ rfl _ _ 67 rfl (w.heap.size + 3) 73 i0 _ 4 8 Try.underlying67 HI.out HZ0.out HZ1.out HZ2.out rfl (by decide) _ _ _ rfl hr3 ⟨W2.heap.size + 1, 0, none⟩ 1 1 [.int .u16 co, .int .u8 jt, .int .u8 jf, .int .u32 kk] rfl rfl (fun j u hj => (InM.ofBlk (Blk.new_ (by simp)) rfl : InM _ (some ⟨W2.heap.size + 1, 0, none⟩) [Value.int .u16 co, .int .u8 jt, .int .u8 jf, .int .u32 kk]).add hj) (by simp [Value.oneCell']) hb1 hb2 hz3 ?_; intro v' w1 hown' hgrow _; obtain ⟨g', cap', rfl⟩ := ownsRow_succ hown'; have hv4 : Blk w1 w.heap.size 67 #[v] := hv3.grown hgrow (fun e => by have := (hr3.lt _ e.symm).1; omega); have hc4 : w1.cell? ⟨w.heap.size, 0, none⟩ = some v := (by rw [hv4.cell]; rfl); have hf4 := hv4.frozen 0))
    have hx4 := hx2.trans hx3
    have hfar : ∀ k, v.ownBlock = some k → w.heap.size + 3 ≤ k := fun k e => (hr3.lt k e).1
    have hg2 := grownBy_setCell' w1 w.heap.size (.slice (some ⟨g', 0, none⟩) (pre.length + 1) cap')
    have hBx : Below w.heap.size w (w1.setCell ⟨w.heap.size, 0, none⟩ (.slice (some ⟨g', 0, none⟩) (pre.length + 1) cap')) := (Ext.set ((hE.trans hx4).grown hgrow (fun k e => by have := hfar k e; omega)) (Nat.le_refl _) _)
    refine ⟨KeepsFrom.trans (KeepsOthers.from ⟨hx4.size, fun k o hk _ => (hx4.block (Array.getElem?_eq_some_iff.1 hk).1).trans hk⟩ _) (KeepsFrom.trans (KeepsOthers.from (KeepsOthers.of_grownBy hgrow ?_) _) ((KeepsOthers.setCell _ _ _).from _)), ?_, ⟨⟨_, hv4.set_ 0 _, ?_, trivial⟩, hBx, ?_⟩⟩
    · intro j o e ho
      rcases hr3.2 with ⟨rfl, _⟩ | ⟨g, cap, cur, rfl, _, hgb, _⟩
      · cases e
      · cases e
        rw [hgb] at ho
        cases ho
        rfl
    · intro p u hp hu
      have h1 := hx4.cell hu
      have hlt1 := block_lt_of_cell h1
      have e1 := cell_of_heap (hgrow.block p hlt1 (fun e => by have := hfar p e.symm; omega))
      have hlt2 : p < w1.heap.size := Nat.lt_of_lt_of_le hlt1 hgrow.size
      have e2 := cell_of_heap (hg2.block p hlt2 (fun e => by injection e with e; omega))
      rw [e2, e1]
      exact h1
    · have := hown'.kept hg2 (.inr (fun e => by have := (hown'.lt _ e).1; omega))
      simp only [List.map_append, List.map_cons, List.map_nil, List.length_append, List.length_cons, List.length_nil, Nat.zero_add]
      rw [hsn]
      exact this
    · exact Nat.le_trans hW0 (Nat.le_trans hx4.size (Nat.le_trans hgrow.size hg2.size))
  case done =>
    rintro D ys W hD hys ⟨⟨v, hv, hrow, _⟩, hB, _⟩ hK
    have hc := hv.cell
    have hyl : ys.length = m := by have := congrArg List.length hys; simpa using this
    rw [hys, hyl] at hrow
    obtain ⟨P, c', rfl⟩ : ∃ P c', v = .slice P m c' := by
      rcases hrow.2 with ⟨hv, h0⟩ | ⟨g, cap, cur, hv, _⟩
      · exact ⟨none, 0, by rw [hv, h0]⟩
      · exact ⟨_, _, hv⟩
    gi_wp2
    refine ⟨by simp, .inl ⟨_, _, rfl, run_takeDeferred hK, ?_⟩⟩
    exact ⟨_, results_tmp2 rfl _ _ _, P, c', rfl, ownsRow_putObj hrow _ hK rfl, hB.trans (belowK_b (w := w) (Nat.le_refl _) W D _ _ (by rw [hz] at hD; omega) hK rfl rfl)⟩
  case stop =>
    rintro D c pre W _ _ h _
    exact h.elim
end Go.Proofs.Ytlicndonhmcmmaa
