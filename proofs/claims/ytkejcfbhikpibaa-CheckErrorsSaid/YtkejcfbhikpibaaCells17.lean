import Derived.Test.YtkejcfbhikpibaaCells16
/- cells.Unsure. -/
namespace Go.Proofs.Ytkejcfbhikpibaa
open Go.RowKit Go.ChangeShapes Go.WideShapes
set_option linter.unusedVariables false
set_option linter.unusedSimpArgs false

/-- Does a place read a cell that isn't sure? -/
def badM (i : Ins) (m : Int) : Bool := bits .andNot .u16 (rdM i) m != 0
def unsureOf (ps : List Ins) (vs : List (Nat × Int)) : List Int := vs.filterMap fun v => if badM (ps.getD v.1 zeroI) v.2 then some (v.1 : Int) else none
theorem unsureOf_snoc (ps : List Ins) (vs : List (Nat × Int)) (v : Nat × Int) : unsureOf ps (vs ++ [v]) = unsureOf ps vs ++ (if badM (ps.getD v.1 zeroI) v.2 then [(v.1 : Int)] else []) := by
  unfold unsureOf
  rw [List.filterMap_append]
  congr 1
  rw [List.filterMap_cons, List.filterMap_nil]
  cases badM (ps.getD v.1 zeroI) v.2 <;> rfl
theorem unsureOf_len (ps : List Ins) (vs : List (Nat × Int)) : (unsureOf ps vs).length ≤ vs.length := List.length_filterMap_le _ _
/-- The box of a row that grows, and the row, owned by a closure. -/
def GrowOwn (bL : Nat) (W : World) (x : Nat) : Prop := x = bL ∨ ∃ v, W.cell? ⟨bL, 0, none⟩ = some v ∧ v.ownBlock = some x
theorem growOwn_of {bL : Nat} {t : TypeId} {W : World} {v : Value} (h : Blk W bL t #[v]) {x : Nat} : GrowOwn bL W x ↔ x = bL ∨ v.ownBlock = some x := by
  unfold GrowOwn
  rw [h.cell]
  constructor
  · rintro (h | ⟨u, hu, hb⟩)
    · exact .inl h
    · cases hu; exact .inr hb
  · rintro (h | h)
    · exact .inl h
    · exact .inr ⟨v, rfl, h⟩
structure GrowVI (ps : List Ins) (A : Option Addr) (n c bP bL : Nat) (vs : List (Nat × Int)) (W : World) : Prop where
  box : Blk W bP 37 #[.slice A n c]
  prog : InM W A (pc ps)
  row : ∃ v, Blk W bL 41 #[v] ∧ W.ownsRow (bL + 1) 3 1 v (unsureOf ps vs).length (nums .i64 (unsureOf ps vs))
theorem growOwns (ps : List Ins) (A : Option Addr) (n c bP bL B : Nat) (hP : bP < B) (hA : 0 < (pc ps).length → ∀ a, A = some a → a.block < B) : Owns (GrowOwn bL) (GrowVI ps A n c bP bL) B :=
  ⟨fun s W x h o => by
    obtain ⟨v, hv, hr⟩ := h.row
    rcases (growOwn_of hv).1 o with rfl | e
    · exact ⟨_, _, _, hv⟩
    · rcases hr.2 with ⟨rfl, _⟩ | ⟨g, cap, cur, rfl, _, hb, _⟩
      · cases e
      · cases e
        exact ⟨_, _, _, hb⟩,
  fun s W W' h o => by
    obtain ⟨v, hv, hr⟩ := h.row
    have hv' := o.blk hv (.inr (.inl rfl))
    refine ⟨⟨o.blk h.box (.inl hP), o.inM h.prog hA, v, hv', ?_⟩, fun b => by rw [growOwn_of hv, growOwn_of hv']⟩
    rcases hr.2 with ⟨rfl, h0⟩ | ⟨g, cap, cur, rfl, h1, hb, h2, h3⟩
    · exact ⟨hr.1, .inl ⟨rfl, h0⟩⟩
    · have hb' := (o.keep g (Array.getElem?_eq_some_iff.1 hb).1 (.inr ((growOwn_of hv).2 (.inr rfl)))).trans hb
      exact ⟨hr.1, .inr ⟨g, cap, cur, rfl, h1, hb', h2, h3⟩⟩⟩

set_option maxHeartbeats 2000000 in
set_option maxRecDepth 100000 in
theorem visitU (ps : List Ins) (A : Option Addr) (n c bP bL k : Nat) (m : Int) (vs : List (Nat × Int)) (hp : ps.length = n) (hn : n ≤ 4096) (hk : k < n) (hok : ∀ i ∈ ps, i.ok) (hl : vs.length ≤ 4096) (hPL : bP < bL) (hAL : ∀ a, A = some a → a.block < bL) (W : World) (hV : GrowVI ps A n c bP bL vs W) :
    Calls Try.prog 58 #[.int .i64 k, .int .u16 m, .pointer (some ⟨bP, 0, none⟩), .pointer (some ⟨bL, 0, none⟩)] W fun e W' => (∃ v, e = .returned v) ∧ GrowVI ps A n c bP bL (vs ++ [(k, m)]) W' ∧ VK (GrowOwn bL) W W' := by
  obtain ⟨hbox, hprog, v, hv, hrow⟩ := hV
  have hkp : k < ps.length := by omega
  have hul := unsureOf_len ps vs
  have HS := Lib.hid (unsureOf_snoc ps vs (k, m))
  obtain ⟨b0, o0, rfl, _⟩ := prog_some hprog (by omega)
  obtain ⟨q0, q1, q2, q3⟩ := prog_cells hprog hkp
  have HR := Lib.hid (fun W => readsI (ps[k]'hkp) (hok _ (List.getElem_mem hkp)) W)
  have HG : ps.getD k zeroI = ps[k] := by rw [List.getD_eq_getElem?_getD, List.getElem?_eq_getElem hkp]; rfl
  have HS2 := HS.out
  dsimp only at HS2
  rw [HG] at HS2
  clear HG HS
  generalize ps[k] = P at *
  have hbad : badM P m = (bits .andNot .u16 (rdM P) m != 0) := rfl
  obtain ⟨co, jt, jf, kk⟩ := P
  simp only [Ins.val, Ins.cells] at HR
  dsimp only at q0 q1 q2 q3
  generalize rdM ⟨co, jt, jf, kk⟩ = rd at *
  obtain ⟨z, hzz⟩ : ∃ z, bits .andNot .u16 rd m = z := ⟨_, rfl⟩
  rw [hzz] at hbad
  have pP := hbox.cell 0
  have i1 : (0 : Int) ≤ k := by omega
  have i2 : (k : Int) < n := by omega
  by_cases hz : z = 0
  · subst hz
    rw [hbad] at HS2
    simp only [bne_self_eq_false, Bool.false_eq_true, if_false, List.append_nil] at HS2
    have H2 := Lib.hid HS2
    have HB := Lib.hid (show ∀ W', Ext W W' → GrowVI ps (some ⟨b0, o0, none⟩) n c bP bL (vs ++ [(k, m)]) W' ∧ VK (GrowOwn bL) W W' from fun W' hx => ⟨⟨hbox.ext hx, hprog.ext hx, v, hv.ext hx, by rw [H2.out]; exact own_ext hrow hx⟩, VK.of_ext hx (fun b => by rw [growOwn_of hv, growOwn_of (hv.ext hx)])⟩)
    clear HS2 hbad hul hbox hprog hv hrow H2
    go_enter Try.func58, Try.ntmps58
    go_wp2_with fail
    refine (HR.out _).mono ?_
    rintro e w1 ⟨rfl, hx⟩
    go_wp2_with fail
    go_end0
    exact ⟨⟨_, rfl⟩, HB.out _ hx⟩
  · have hz2 : (z != 0) = true := by simpa using hz
    rw [hbad, hz2] at HS2
    simp only [if_true] at HS2
    have H2 := Lib.hid HS2
    have HU := Lib.hid hul
    clear HS2 hbad hul
    go_enter Try.func58, Try.ntmps58
    go_wp2_with fail
    refine (HR.out _).mono ?_
    rintro e w1 ⟨rfl, hx⟩
    have hv1 := hv.ext hx
    have hrow1 := own_ext hrow hx
    have hbox1 := hbox.ext hx
    have hprog1 := hprog.ext hx
    have c1 := hv1.cell 0
    clear q0 q1 q2 q3 pP HR hbox hprog hrow
    have hb1 : (unsureOf ps vs).length + 1 ≤ maxLen := by have := HU.out; unfold maxLen; omega
    have hb2 : ((unsureOf ps vs).length + 1) * 8 ≤ 140737488355328 := by have := HU.out; omega
    obtain ⟨i0, hi, hz0, hz1, hz2'⟩ := info_parts info_int
    have HI := Lib.hid hi; have HZ0 := Lib.hid hz0; have HZ1 := Lib.hid hz1; have HZ2 := Lib.hid hz2'
    clear hi hz0 hz1 hz2'
    generalize unsureOf ps vs = us at *
    have hz3 : bL + 1 ≤ (w1.alloc (.cells #[.int .i64 k] 3)).heap.size := by have := hv1.lt; simp; omega
    have hr3 := hrow1.alloc (.cells #[.int .i64 k] 3)
    go_wp2_with (refine wpList_append_own_at _ rfl (.tmp 14) (.tmp 16) 41 rfl (bL + 1) 3 i0 _ 1 8 Try.underlying41 HI.out HZ0.out HZ1.out HZ2.out rfl (by decide) _ _ _ rfl hr3 ⟨w1.heap.size, 0, none⟩ 1 1 [.int .i64 k] rfl rfl (fun j u hj => (InM.ofBlk (Blk.new_ rfl) rfl : InM _ (some ⟨w1.heap.size, 0, none⟩) [Value.int .i64 k]).add hj) (by simp [Value.oneCell']) hb1 hb2 hz3 ?_; intro v' w2 hown' hgrow _ hwh; obtain ⟨g', cap', rfl⟩ := ownsRow_succ hown'; have hv4 : Blk w2 bL 41 #[v] := (hv1.alloc _).grown hgrow (fun e => by have := (hr3.lt _ e.symm).1; omega); have hc4 := hv4.cell 0; have hf4 := hv4.frozen 0)
    go_end0
    have hg2 := grownBy_setCell' w2 bL (.slice (some ⟨g', 0, none⟩) (us.length + 1) cap')
    have hx4 := hx.alloc (.cells #[.int .i64 k] 3)
    have hb0 : b0 < bL := hAL _ rfl
    have hfar : ∀ e, v.ownBlock = some e → bL + 1 ≤ e := fun e he => (hrow1.lt e he).1
    have hxf : Below bL w1 (w2.setCell ⟨bL, 0, none⟩ (.slice (some ⟨g', 0, none⟩) (us.length + 1) cap')) :=
      ((((Ext.refl w1).alloc (.cells #[.int .i64 k] 3)).below (Nat.le_of_lt hv1.lt)).grown hgrow (by have := hv1.lt; simp; omega) (fun e he => by have := hfar e he; omega)).setCell (Nat.le_refl _) _
    refine ⟨⟨_, rfl⟩, ⟨hbox1.below hxf hPL, inM_below hprog1 hb0 hxf, _, hv4.set_ 0 _, ?_⟩, ?_⟩
    · rw [H2.out, List.length_append, nums_append]
      exact hown'.kept hg2 (.inr (fun e => by have := (hown'.lt _ e).1; omega))
    · refine ⟨hg2.os.trans (hgrow.os.trans hx4.os), hg2.tape.trans (hgrow.tape.trans hx4.tape), hg2.output.trans (hgrow.output.trans hx4.output), Nat.le_trans hx4.size (Nat.le_trans hgrow.size hg2.size), fun b hb ho => ?_⟩
      rw [growOwn_of hv] at ho
      have n1 : b ≠ bL := fun e => ho (.inl e)
      have n2 : v.ownBlock ≠ some b := fun e => ho (.inr e)
      refine ⟨(Below.heap_setCell w2 ⟨bL, 0, none⟩ _ b n1).trans ((hgrow.block b (Nat.lt_of_lt_of_le hb hx4.size) (fun e => n2 e.symm)).trans (hx4.block hb)), fun h => ?_⟩
      rcases (growOwn_of (hv4.set_ 0 (.slice (some ⟨g', 0, none⟩) (us.length + 1) cap'))).1 h with e | e
      · exact n1 e
      · rcases hwh with h | h
        · exact n2 (h.symm.trans e)
        · have h2 : some b = some (w1.heap.size + 1) := by rw [← e]; exact h.trans (by simp)
          injection h2 with h2
          have := hx.size
          omega

/-- cells.Unsure's answer. -/
def unsureT (ps : List Ins) : List Int := if 4096 < ps.length then [] else unsureOf ps (visits ps ps.length)
theorem visits_len (ps : List Ins) (k : Nat) : (visits ps k).length ≤ k := by
  unfold visits
  refine Nat.le_trans (List.length_filterMap_le _ _) ?_
  simp
set_option maxHeartbeats 2000000 in
set_option maxRecDepth 100000 in
theorem unsureI (A : Option Addr) (n c : Nat) (ps : List Ins) (w : World) (hp : ps.length = n) (hok : ∀ i ∈ ps, i.ok) (hM : InM w A (pc ps)) :
    Calls Try.prog 38 #[.slice A n c] w fun e w' => ∃ P c', e = .returned (.slice P (unsureT ps).length c') ∧ w'.ownsRow w.heap.size 3 1 (.slice P (unsureT ps).length c') (unsureT ps).length (nums .i64 (unsureT ps)) ∧ Ext w w' := by
  have hx := ((Ext.refl w).alloc (.cells #[.slice A n c] 37)).alloc (.cells #[.slice none 0 0] 41)
  have BP : Blk ((w.alloc (.cells #[.slice A n c] 37)).alloc (.cells #[.slice none 0 0] 41)) w.heap.size 37 #[.slice A n c] := (Blk.new w _ _).alloc _
  have BL : Blk ((w.alloc (.cells #[.slice A n c] 37)).alloc (.cells #[.slice none 0 0] 41)) (w.heap.size + 1) 41 #[.slice none 0 0] := Blk.new_ (by simp)
  have p0 := BP.cell 0
  by_cases big : 4096 < n
  · have hr : unsureT ps = [] := by unfold unsureT; rw [if_pos (by omega)]
    rw [hr]
    have HW := Lib.hid (fun vf lb W => walkBig A n c big vf lb W)
    have h1 : World.ownsRow ((w.alloc (.cells #[.slice A n c] 37)).alloc (.cells #[.slice none 0 0] 41)) w.heap.size 3 1 (.slice none 0 0) 0 (nums .i64 []) := World.ownsRow_nil _ _ _ _
    have p1 := BL.cell 0
    clear hr hok hM big hp BP BL
    go_enter Try.func38, Try.ntmps38
    go_wp2_with fail
    generalize (w.alloc (.cells #[.slice A n c] 37)).alloc (.cells #[.slice none 0 0] 41) = w1 at *
    refine (HW.out _ _ _).mono ?_
    rintro e w1 ⟨⟨v, rfl⟩, rfl⟩
    go_wp2
    go_ret
    exact ⟨none, 0, rfl, h1, hx⟩
  · have hr : unsureT ps = unsureOf ps (visits ps n) := by unfold unsureT; rw [if_neg (by omega), hp]
    rw [hr]
    have hAw : 0 < n → ∀ a, A = some a → a.block < w.heap.size := fun h a e => by
      subst e
      obtain ⟨b, o, e2, hb⟩ := prog_some hM (by omega)
      injection e2 with e2
      subst e2
      exact hb
    have HW := Lib.hid (fun W (hxW : Ext w W) (hz : w.heap.size + 2 = W.heap.size) ha h0 => callsIn_wide.1 (walkT A n c ps hp (by omega) hok 58 #[.pointer (some ⟨w.heap.size, 0, none⟩), .pointer (some ⟨w.heap.size + 1, 0, none⟩)] (enters_of Try.func58 (by kernel_rfl) rfl) (GrowOwn (w.heap.size + 1)) (GrowVI ps A n c w.heap.size (w.heap.size + 1)) W
      (growOwns ps A n c _ _ _ (by omega) (by rw [pc_length, hp]; intro h a e; have := hAw (by omega) a e; omega))
      (fun k W2 hk _ hV => visitU ps A n c w.heap.size (w.heap.size + 1) k _ (visits ps k) hp (by omega) hk hok (by have := visits_len ps k; omega) (by omega) (fun a e => by have := hAw (by omega) a e; omega) W2 hV) (hM.ext hxW) ha h0))
    have HM := Lib.hid (hM.ext hx)
    have hz : w.heap.size + 2 = ((w.alloc (.cells #[.slice A n c] 37)).alloc (.cells #[.slice none 0 0] 41)).heap.size := by simp
    have HA := Lib.hid hAw
    clear hr hok hM hAw
    go_enter Try.func38, Try.ntmps38
    go_wp2_with fail
    generalize (w.alloc (.cells #[.slice A n c] 37)).alloc (.cells #[.slice none 0 0] 41) = w1 at *
    have hgo : ∀ b, GrowOwn (w.heap.size + 1) w1 b → w.heap.size < b := fun b ho => by
      rcases (growOwn_of BL).1 ho with h | h
      · omega
      · cases h
    refine (HW.out w1 hx hz (fun h0 a e ho => ?_) ⟨BP, HM.out, _, BL, World.ownsRow_nil _ _ _ _⟩).mono ?_
    · have h1 := HA.out h0 a e
      have h2 := hgo _ ho
      omega
    rintro e w2 ⟨⟨v, rfl⟩, ⟨hb, hpg, u, hu, hrow⟩, hk⟩
    have p1 := hu.cell 0
    have hx2 : Ext w w2 := ext_of_vk hx hk (fun b hb ho => by have := hgo _ ho; omega)
    obtain ⟨P, c', rfl⟩ : ∃ P c', u = .slice P (unsureOf ps (visits ps n)).length c' := by
      rcases hrow.2 with ⟨hv, h0⟩ | ⟨g, cap, cur, hv, _⟩
      · exact ⟨none, 0, by rw [hv, h0]⟩
      · exact ⟨_, _, hv⟩
    clear hk hx hgo BP BL hu hb hpg HW HM HA
    go_wp2
    go_ret
    exact ⟨P, c', rfl, own_lower hrow (show w.heap.size ≤ w.heap.size + 1 + 1 by omega), hx2⟩
end Go.Proofs.Ytkejcfbhikpibaa
