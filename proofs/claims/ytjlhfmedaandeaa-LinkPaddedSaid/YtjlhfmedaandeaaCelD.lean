import Derived.Test.YtjlhfmedaandeaaCelC
import Derived.Test.YtjlhfmedaandeaaInsnB
/- cells.Unsure. -/
namespace Go.Proofs.Ytjlhfmedaandeaa
open Go.RowKit Go.ChangeShapes Go.WideShapes
set_option linter.unusedVariables false
set_option linter.unusedSimpArgs false

/-- Does a place read a cell that isn't sure? -/
def badM (i : Ins) (m : Int) : Bool := bits .andNot .u16 (rdM i) m != 0
def unsureOf (ps : List Ins) (vs : List (Nat × Int)) : List Int := vs.filterMap fun v => if badM (ps.getD v.1 zeroI) v.2 then some (v.1 : Int) else none
theorem unsureOf_snoc (ps : List Ins) (vs : List (Nat × Int)) (v : Nat × Int) : unsureOf ps (vs ++ [v]) = unsureOf ps vs ++ (if badM (ps.getD v.1 zeroI) v.2 then [(v.1 : Int)] else []) := by
  unfold unsureOf
  rw [List.filterMap_append]
  congr 1
  rw [List.filterMap_cons, List.filterMap_nil]
  cases badM (ps.getD v.1 zeroI) v.2 <;> rfl
theorem unsureOf_len (ps : List Ins) (vs : List (Nat × Int)) : (unsureOf ps vs).length ≤ vs.length := List.length_filterMap_le _ _
/-- The box of a row that grows, and the row, owned by a closure. -/
def GrowOwn (bL : Nat) (W : World) (x : Nat) : Prop := x = bL ∨ ∃ v, W.cell? ⟨bL, 0, none⟩ = some v ∧ v.ownBlock = some x
theorem growOwn_of {bL : Nat} {t : TypeId} {W : World} {v : Value} (h : Blk W bL t #[v]) {x : Nat} : GrowOwn bL W x ↔ x = bL ∨ v.ownBlock = some x := by
  unfold GrowOwn
  rw [h.cell]
  constructor
  · rintro (h | ⟨u, hu, hb⟩)
    · exact .inl h
    · cases hu; exact .inr hb
  · rintro (h | h)
    · exact .inl h
    · exact .inr ⟨v, rfl, h⟩
structure GrowVI (ps : List Ins) (A : Option Addr) (n c bP bL : Nat) (vs : List (Nat × Int)) (W : World) : Prop where
  box : Blk W bP 33 #[.slice A n c]
  prog : InM W A (pc ps)
  row : ∃ v, Blk W bL 67 #[v] ∧ W.ownsRow (bL + 1) 3 1 v (unsureOf ps vs).length (nums .i64 (unsureOf ps vs))
theorem growOwns (ps : List Ins) (A : Option Addr) (n c bP bL B : Nat) (hP : bP < B) (hA : 0 < (pc ps).length → ∀ a, A = some a → a.block < B) : Owns (GrowOwn bL) (GrowVI ps A n c bP bL) B :=
  ⟨fun s W x h o => by
    obtain ⟨v, hv, hr⟩ := h.row
    rcases (growOwn_of hv).1 o with rfl | e
    · exact ⟨_, _, _, hv⟩
    · rcases hr.2 with ⟨rfl, _⟩ | ⟨g, cap, cur, rfl, _, hb, _⟩
      · cases e
      · cases e
        exact ⟨_, _, _, hb⟩,
  fun s W W' h o => by
    obtain ⟨v, hv, hr⟩ := h.row
    have hv' := o.blk hv (.inr (.inl rfl))
    refine ⟨⟨o.blk h.box (.inl hP), o.inM h.prog hA, v, hv', ?_⟩, fun b => by rw [growOwn_of hv, growOwn_of hv']⟩
    rcases hr.2 with ⟨rfl, h0⟩ | ⟨g, cap, cur, rfl, h1, hb, h2, h3⟩
    · exact ⟨hr.1, .inl ⟨rfl, h0⟩⟩
    · have hb' := (o.keep g (Array.getElem?_eq_some_iff.1 hb).1 (.inr ((growOwn_of hv).2 (.inr rfl)))).trans hb
      exact ⟨hr.1, .inr ⟨g, cap, cur, rfl, h1, hb', h2, h3⟩⟩⟩

set_option maxHeartbeats 2000000 in
set_option maxRecDepth 100000 in
theorem visitU (ps : List Ins) (A : Option Addr) (n c bP bL k : Nat) (m : Int) (vs : List (Nat × Int)) (hp : ps.length = n) (hn : n ≤ 4096) (hk : k < n) (hok : ∀ i ∈ ps, i.ok) (hl : vs.length ≤ 4096) (hPL : bP < bL) (hAL : ∀ a, A = some a → a.block < bL) (W : World) (hV : GrowVI ps A n c bP bL vs W) :
    Calls Try.prog 92 #[.int .i64 k, .int .u16 m, .pointer (some ⟨bP, 0, none⟩), .pointer (some ⟨bL, 0, none⟩)] W fun e W' => (∃ v, e = .returned v) ∧ GrowVI ps A n c bP bL (vs ++ [(k, m)]) W' ∧ VK (GrowOwn bL) W W' := by
  obtain ⟨hbox, hprog, v, hv, hrow⟩ := hV
  have hkp : k < ps.length := by omega
  have hul := unsureOf_len ps vs
  have HS := Lib.hid (unsureOf_snoc ps vs (k, m))
  obtain ⟨b0, o0, rfl, _⟩ := prog_some hprog (by omega)
  obtain ⟨q0, q1, q2, q3⟩ := prog_cells hprog hkp
  have HR := Lib.hid (fun W => readsI (ps[k]'hkp) (hok _ (List.getElem_mem hkp)) W)
  have HG : ps.getD k zeroI = ps[k] := by rw [List.getD_eq_getElem?_getD, List.getElem?_eq_getElem hkp]; rfl
  have HS2 := HS.out
  dsimp only at HS2
  rw [HG] at HS2
  clear HG HS
  generalize ps[k] = P at *
  have hbad : badM P m = (bits .andNot .u16 (rdM P) m != 0) := rfl
  obtain ⟨co, jt, jf, kk⟩ := P
  simp only [Ins.val, Ins.cells] at HR
  dsimp only at q0 q1 q2 q3
  generalize rdM ⟨co, jt, jf, kk⟩ = rd at *
  obtain ⟨z, hzz⟩ : ∃ z, bits .andNot .u16 rd m = z := ⟨_, rfl⟩
  rw [hzz] at hbad
  have pP := hbox.cell 0
  have i1 : (0 : Int) ≤ k := by omega
  have i2 : (k : Int) < n := by omega
  by_cases hz : z = 0
  · subst hz
    rw [hbad] at HS2
    simp only [bne_self_eq_false, Bool.false_eq_true, if_false, List.append_nil] at HS2
    have H2 := Lib.hid HS2
    have HB := Lib.hid (show ∀ W', Ext W W' → GrowVI ps (some ⟨b0, o0, none⟩) n c bP bL (vs ++ [(k, m)]) W' ∧ VK (GrowOwn bL) W W' from fun W' hx => ⟨⟨hbox.ext hx, hprog.ext hx, v, hv.ext hx, by rw [H2.out]; exact own_ext hrow hx⟩, VK.of_ext hx (fun b => by rw [growOwn_of hv, growOwn_of (hv.ext hx)])⟩)
    clear HS2 hbad hul hbox hprog hv hrow H2
    go_enter Try.func92, Try.ntmps92
    go_wp2_with fail
    refine (HR.out _).mono ?_
    rintro e w1 ⟨rfl, hx⟩
    go_wp2_with fail
    go_end0
    exact ⟨⟨_, rfl⟩, HB.out _ hx⟩
  · have hz2 : (z != 0) = true := by simpa using hz
    rw [hbad, hz2] at HS2
    simp only [if_true] at HS2
    have H2 := Lib.hid HS2
    have HU := Lib.hid hul
    clear HS2 hbad hul
    go_enter Try.func92, Try.ntmps92
    go_wp2_with fail
    refine (HR.out _).mono ?_
    rintro e w1 ⟨rfl, hx⟩
    have hv1 := hv.ext hx
    have hrow1 := own_ext hrow hx
    have hbox1 := hbox.ext hx
    have hprog1 := hprog.ext hx
    have c1 := hv1.cell 0
    clear q0 q1 q2 q3 pP HR hbox hprog hrow
    have hb1 : (unsureOf ps vs).length + 1 ≤ maxLen := by have := HU.out; unfold maxLen; omega
    have hb2 : ((unsureOf ps vs).length + 1) * 8 ≤ 140737488355328 := by have := HU.out; omega
    obtain ⟨i0, hi, hz0, hz1, hz2'⟩ := info_parts info_int
    have HI := Lib.hid hi; have HZ0 := Lib.hid hz0; have HZ1 := Lib.hid hz1; have HZ2 := Lib.hid hz2'
    clear hi hz0 hz1 hz2'
    generalize unsureOf ps vs = us at *
    have hz3 : bL + 1 ≤ (w1.alloc (.cells #[.int .i64 k] 3)).heap.size := by have := hv1.lt; simp; omega
    have hr3 := hrow1.alloc (.cells #[.int .i64 k] 3)
    go_wp2_with (refine wpList_append_own_at _ rfl (.tmp 14) (.tmp 16) 67 rfl (bL + 1) 3 i0 _ 1 8 Try.underlying67 HI.out HZ0.out HZ1.out HZ2.out rfl (by decide) _ _ _ rfl hr3 ⟨w1.heap.size, 0, none⟩ 1 1 [.int .i64 k] rfl rfl (fun j u hj => (InM.ofBlk (Blk.new_ rfl) rfl : InM _ (some ⟨w1.heap.size, 0, none⟩) [Value.int .i64 k]).add hj) (by simp [Value.oneCell']) hb1 hb2 hz3 ?_; intro v' w2 hown' hgrow _ hwh; obtain ⟨g', cap', rfl⟩ := ownsRow_succ hown'; have hv4 : Blk w2 bL 67 #[v] := (hv1.alloc _).grown hgrow (fun e => by have := (hr3.lt _ e.symm).1; omega); have hc4 := hv4.cell 0; have hf4 := hv4.frozen 0)
    go_end0
    have hg2 := grownBy_setCell' w2 bL (.slice (some ⟨g', 0, none⟩) (us.length + 1) cap')
    have hx4 := hx.alloc (.cells #[.int .i64 k] 3)
    have hb0 : b0 < bL := hAL _ rfl
    have hfar : ∀ e, v.ownBlock = some e → bL + 1 ≤ e := fun e he => (hrow1.lt e he).1
    have hxf : Below bL w1 (w2.setCell ⟨bL, 0, none⟩ (.slice (some ⟨g', 0, none⟩) (us.length + 1) cap')) :=
      ((((Ext.refl w1).alloc (.cells #[.int .i64 k] 3)).below (Nat.le_of_lt hv1.lt)).grown hgrow (by have := hv1.lt; simp; omega) (fun e he => by have := hfar e he; omega)).setCell (Nat.le_refl _) _
    refine ⟨⟨_, rfl⟩, ⟨hbox1.below hxf hPL, inM_below hprog1 hb0 hxf, _, hv4.set_ 0 _, ?_⟩, ?_⟩
    · rw [H2.out, List.length_append, nums_append]
      exact hown'.kept hg2 (.inr (fun e => by have := (hown'.lt _ e).1; omega))
    · refine ⟨hg2.os.trans (hgrow.os.trans hx4.os), hg2.tape.trans (hgrow.tape.trans hx4.tape), hg2.output.trans (hgrow.output.trans hx4.output), Nat.le_trans hx4.size (Nat.le_trans hgrow.size hg2.size), fun b hb ho => ?_⟩
      rw [growOwn_of hv] at ho
      have n1 : b ≠ bL := fun e => ho (.inl e)
      have n2 : v.ownBlock ≠ some b := fun e => ho (.inr e)
      refine ⟨(Below.heap_setCell w2 ⟨bL, 0, none⟩ _ b n1).trans ((hgrow.block b (Nat.lt_of_lt_of_le hb hx4.size) (fun e => n2 e.symm)).trans (hx4.block hb)), fun h => ?_⟩
      rcases (growOwn_of (hv4.set_ 0 (.slice (some ⟨g', 0, none⟩) (us.length + 1) cap'))).1 h with e | e
      · exact n1 e
      · rcases hwh with h | h
        · exact n2 (h.symm.trans e)
        · have h2 : some b = some (w1.heap.size + 1) := by rw [← e]; exact h.trans (by simp)
          injection h2 with h2
          have := hx.size
          omega

/-- cells.Unsure's answer. -/
def unsureT (ps : List Ins) : List Int := if 4096 < ps.length then [] else unsureOf ps (visits ps ps.length)
theorem visits_len (ps : List Ins) (k : Nat) : (visits ps k).length ≤ k := by
  unfold visits
  refine Nat.le_trans (List.length_filterMap_le _ _) ?_
  simp
set_option maxHeartbeats 2000000 in
set_option maxRecDepth 100000 in
theorem unsureI (A : Option Addr) (n c : Nat) (ps : List Ins) (w : World) (hp : ps.length = n) (hok : ∀ i ∈ ps, i.ok) (hM : InM w A (pc ps)) :
    Calls Try.prog 79 #[.slice A n c] w fun e w' => ∃ P c', e = .returned (.slice P (unsureT ps).length c') ∧ w'.ownsRow w.heap.size 3 1 (.slice P (unsureT ps).length c') (unsureT ps).length (nums .i64 (unsureT ps)) ∧ Ext w w' := by
  have hx := ((Ext.refl w).alloc (.cells #[.slice A n c] 33)).alloc (.cells #[.slice none 0 0] 67)
  have BP : Blk ((w.alloc (.cells #[.slice A n c] 33)).alloc (.cells #[.slice none 0 0] 67)) w.heap.size 33 #[.slice A n c] := (Blk.new w _ _).alloc _
  have BL : Blk ((w.alloc (.cells #[.slice A n c] 33)).alloc (.cells #[.slice none 0 0] 67)) (w.heap.size + 1) 67 #[.slice none 0 0] := Blk.new_ (by simp)
  have p0 := BP.cell 0
  by_cases big : 4096 < n
  · have hr : unsureT ps = [] := by unfold unsureT; rw [if_pos (by omega)]
    rw [hr]
    have HW := Lib.hid (fun vf lb W => walkBig A n c big vf lb W)
    have h1 : World.ownsRow ((w.alloc (.cells #[.slice A n c] 33)).alloc (.cells #[.slice none 0 0] 67)) w.heap.size 3 1 (.slice none 0 0) 0 (nums .i64 []) := World.ownsRow_nil _ _ _ _
    have p1 := BL.cell 0
    clear hr hok hM big hp BP BL
    go_enter Try.func79, Try.ntmps79
    go_wp2_with fail
    generalize (w.alloc (.cells #[.slice A n c] 33)).alloc (.cells #[.slice none 0 0] 67) = w1 at *
    refine (HW.out _ _ _).mono ?_
    rintro e w1 ⟨⟨v, rfl⟩, rfl⟩
    go_wp2
    go_ret
    exact ⟨none, 0, rfl, h1, hx⟩
  · have hr : unsureT ps = unsureOf ps (visits ps n) := by unfold unsureT; rw [if_neg (by omega), hp]
    rw [hr]
    have hAw : 0 < n → ∀ a, A = some a → a.block < w.heap.size := fun h a e => by
      subst e
      obtain ⟨b, o, e2, hb⟩ := prog_some hM (by omega)
      injection e2 with e2
      subst e2
      exact hb
    have HW := Lib.hid (fun W (hxW : Ext w W) (hz : w.heap.size + 2 = W.heap.size) ha h0 => callsIn_wide.1 (walkT A n c ps hp (by omega) hok 92 #[.pointer (some ⟨w.heap.size, 0, none⟩), .pointer (some ⟨w.heap.size + 1, 0, none⟩)] (enters_of Try.func92 (by kernel_rfl) rfl) (GrowOwn (w.heap.size + 1)) (GrowVI ps A n c w.heap.size (w.heap.size + 1)) W
      (growOwns ps A n c _ _ _ (by omega) (by rw [pc_length, hp]; intro h a e; have := hAw (by omega) a e; omega))
      (fun k W2 hk _ hV => visitU ps A n c w.heap.size (w.heap.size + 1) k _ (visits ps k) hp (by omega) hk hok (by have := visits_len ps k; omega) (by omega) (fun a e => by have := hAw (by omega) a e; omega) W2 hV) (hM.ext hxW) ha h0))
    have HM := Lib.hid (hM.ext hx)
    have hz : w.heap.size + 2 = ((w.alloc (.cells #[.slice A n c] 33)).alloc (.cells #[.slice none 0 0] 67)).heap.size := by simp
    have HA := Lib.hid hAw
    clear hr hok hM hAw
    go_enter Try.func79, Try.ntmps79
    go_wp2_with fail
    generalize (w.alloc (.cells #[.slice A n c] 33)).alloc (.cells #[.slice none 0 0] 67) = w1 at *
    have hgo : ∀ b, GrowOwn (w.heap.size + 1) w1 b → w.heap.size < b := fun b ho => by
      rcases (growOwn_of BL).1 ho with h | h
      · omega
      · cases h
    refine (HW.out w1 hx hz (fun h0 a e ho => ?_) ⟨BP, HM.out, _, BL, World.ownsRow_nil _ _ _ _⟩).mono ?_
    · have h1 := HA.out h0 a e
      have h2 := hgo _ ho
      omega
    rintro e w2 ⟨⟨v, rfl⟩, ⟨hb, hpg, u, hu, hrow⟩, hk⟩
    have p1 := hu.cell 0
    have hx2 : Ext w w2 := ext_of_vk hx hk (fun b hb ho => by have := hgo _ ho; omega)
    obtain ⟨P, c', rfl⟩ : ∃ P c', u = .slice P (unsureOf ps (visits ps n)).length c' := by
      rcases hrow.2 with ⟨hv, h0⟩ | ⟨g, cap, cur, hv, _⟩
      · exact ⟨none, 0, by rw [hv, h0]⟩
      · exact ⟨_, _, hv⟩
    clear hk hx hgo BP BL hu hb hpg HW HM HA
    go_wp2
    go_ret
    exact ⟨P, c', rfl, own_lower hrow (show w.heap.size ≤ w.heap.size + 1 + 1 by omega), hx2⟩
end Go.Proofs.Ytjlhfmedaandeaa

/- The plain law: what cells.Reached, Sure and Unsure compute is what the document defines, cell by cell. No program is walked here. -/
namespace Go.Proofs.Ytjlhfmedaandeaa
open Go.RowKit
set_option linter.unusedVariables false
set_option linter.unusedSimpArgs false

theorem come_foldl_snd (m : Int) : ∀ (ns : List Int) (s : List Int × List Bool), (ns.foldl (come1 m) s).2 = setAll s.2 ns
  | [], s => rfl
  | n :: ns, s => by
    rw [List.foldl_cons, come_foldl_snd m ns]
    simp [setAll, come1]
theorem wupto_snd (ps : List Ins) : ∀ k, (wupto ps k).2 = rupto ps k
  | 0 => rfl
  | k + 1 => by
    rw [wupto_succ, rupto_succ]
    unfold wstep rstep
    rw [wupto_snd ps k]
    split
    · rw [come_foldl_snd, wupto_snd ps k]
    · exact wupto_snd ps k
theorem setAll_get (j : Nat) : ∀ (ns : List Int) (l : List Bool), (∀ x ∈ ns, x.toNat ≠ j) → (setAll l ns).getD j false = l.getD j false
  | [], l, _ => rfl
  | n :: ns, l, h => by
    have h1 := setAll_get j ns (l.set n.toNat true) (fun x hx => h x (by simp [hx]))
    have h2 : n.toNat ≠ j := h n (by simp)
    simp only [setAll, List.foldl_cons] at h1 ⊢
    rw [h1]
    simp [List.getD_eq_getElem?_getD, List.getElem?_set, h2]
theorem rupto_stable (ps : List Ins) (hok : ∀ i ∈ ps, i.ok) (j : Nat) : ∀ d, (rupto ps (j + d)).getD j false = (rupto ps j).getD j false
  | 0 => rfl
  | d + 1 => by
    rw [← Nat.add_assoc, rupto_succ]
    unfold rstep
    split
    · rw [setAll_get, rupto_stable ps hok j d]
      intro x hx
      have := nextL_bd ps hok _ x hx
      omega
    · exact rupto_stable ps hok j d
theorem getD_set {α : Type} (l : List α) (i j : Nat) (a d : α) : (l.set i a).getD j d = if i = j ∧ j < l.length then a else l.getD j d := by
  simp only [List.getD_eq_getElem?_getD, List.getElem?_set]
  by_cases h : i = j
  · subst h
    by_cases h2 : i < l.length
    · simp [h2]
    · simp [h2]
  · simp [h]
theorem marks_get (ps : List Ins) (n j : Nat) (hj : j < n) : ∀ k, (marksOf n (visits ps k)).getD j false = (decide (j < k) && (rupto ps j).getD j false)
  | 0 => by simp [visits, marksOf, List.getD_eq_getElem?_getD, hj]
  | k + 1 => by
    rw [visits_succ, wupto_snd]
    by_cases hr : (rupto ps k).getD k false = true
    · rw [if_pos hr, marksOf_snoc, getD_set, marks_get ps n j hj k, marksOf_len]
      by_cases h : k = j
      · subst h; simp only [hj, and_self, if_true]; rw [hr]; simp
      · rw [if_neg (fun e => h e.1)]
        have : decide (j < k) = decide (j < k + 1) := by
          by_cases hh : j < k
          · simp [hh, show j < k + 1 by omega]
          · simp [hh, show ¬ j < k + 1 by omega]
        rw [this]
    · rw [if_neg hr, List.append_nil, marks_get ps n j hj k]
      by_cases h : k = j
      · subst h
        have : (rupto ps k).getD k false = false := by simpa using hr
        rw [this]; simp
      · have : decide (j < k) = decide (j < k + 1) := by
          by_cases hh : j < k
          · simp [hh, show j < k + 1 by omega]
          · simp [hh, show ¬ j < k + 1 by omega]
        rw [this]
theorem masks_get (ps : List Ins) (n j : Nat) (hj : j < n) : ∀ k, (masksOf n (visits ps k)).getD j 0 = (if j < k ∧ (rupto ps j).getD j false = true then (wupto ps j).1.getD j 0 else 65535)
  | 0 => by simp [visits, masksOf, List.getD_eq_getElem?_getD, hj]
  | k + 1 => by
    rw [visits_succ, wupto_snd]
    by_cases hr : (rupto ps k).getD k false = true
    · rw [if_pos hr, masksOf_snoc, getD_set, masks_get ps n j hj k, masksOf_len]
      by_cases h : k = j
      · subst h
        simp only [hj, and_self, if_true]
        rw [if_pos ⟨by omega, hr⟩]
      · rw [if_neg (fun e => h e.1)]
        by_cases hh : j < k
        · simp only [hh, show j < k + 1 by omega, true_and]
        · simp only [hh, show ¬ j < k + 1 by omega, false_and]
    · rw [if_neg hr, List.append_nil, masks_get ps n j hj k]
      by_cases h : k = j
      · subst h
        rw [if_neg (fun e => hr e.2), if_neg (fun e => hr e.2)]
      · by_cases hh : j < k
        · simp only [hh, show j < k + 1 by omega, true_and]
        · simp only [hh, show ¬ j < k + 1 by omega, false_and]
theorem ext_getD {α : Type} (d : α) {l m : List α} (h : l.length = m.length) (hg : ∀ j, j < l.length → l.getD j d = m.getD j d) : l = m := by
  refine List.ext_getElem h fun j h1 h2 => ?_
  have := hg j h1
  simpa [List.getD_eq_getElem?_getD, h1, h2] using this
theorem reach_same (ps : List Ins) (hok : ∀ i ∈ ps, i.ok) : reachT ps = reachL ps := by
  unfold reachT reachL
  split
  · rfl
  · refine ext_getD false (by rw [marksOf_len, rupto_length]) fun j hj => ?_
    rw [marksOf_len] at hj
    rw [marks_get ps _ j hj, show ps.length = j + (ps.length - j) by omega, rupto_stable ps hok j]
    rw [show j + (ps.length - j) = ps.length by omega]
    simp [hj]

/-- A place that isn't sure of a cell, as the document has it. -/
def skipC (i : Ins) (c : Nat) : Bool := (i.code == 2 || i.code == 3) && i.k == (c : Int)
def ustep (ps : List Ins) (c : Nat) (un : List Bool) (i : Nat) : List Bool := if un.getD i false then (if skipC (ps.getD i zeroI) c then un else setAll un (nextL ps i)) else un
def uupto (ps : List Ins) (c k : Nat) : List Bool := (List.range k).foldl (ustep ps c) (rstart ps.length)
theorem uupto_succ (ps : List Ins) (c k : Nat) : uupto ps c (k + 1) = ustep ps c (uupto ps c k) k := by simp [uupto, List.range_succ, List.foldl_append]
theorem ustep_length (ps : List Ins) (c : Nat) (un : List Bool) (i : Nat) : (ustep ps c un i).length = un.length := by
  unfold ustep
  split
  · split
    · rfl
    · exact setAll_length _ _
  · rfl
theorem uupto_length (ps : List Ins) (c : Nat) : ∀ k, (uupto ps c k).length = ps.length
  | 0 => by simp [uupto, rstart]
  | k + 1 => by rw [uupto_succ, ustep_length, uupto_length ps c k]
/-- The document's masks: one cell, the first k places. -/
def sstep (ps : List Ins) (c : Nat) (out : List Int) (i : Nat) : List Int := if (uupto ps c i).getD i false then out else out.set i (bits .or .u16 (out.getD i 0) (2 ^ c : Nat))
def cellUpto (ps : List Ins) (c : Nat) (out : List Int) (k : Nat) : List Int := (List.range k).foldl (sstep ps c) out
theorem cellUpto_succ (ps : List Ins) (c : Nat) (out : List Int) (k : Nat) : cellUpto ps c out (k + 1) = sstep ps c (cellUpto ps c out k) k := by simp [cellUpto, List.range_succ, List.foldl_append]
theorem sstep_length (ps : List Ins) (c : Nat) (out : List Int) (i : Nat) : (sstep ps c out i).length = out.length := by
  unfold sstep
  split
  · rfl
  · simp
theorem cellUpto_length (ps : List Ins) (c : Nat) (out : List Int) : ∀ k, (cellUpto ps c out k).length = out.length
  | 0 => rfl
  | k + 1 => by rw [cellUpto_succ, sstep_length, cellUpto_length ps c out k]
def cellsUpto (ps : List Ins) (m : Nat) : List Int := (List.range m).foldl (fun out c => cellUpto ps c out ps.length) (List.replicate ps.length 0)
theorem cellsUpto_succ (ps : List Ins) (m : Nat) : cellsUpto ps (m + 1) = cellUpto ps m (cellsUpto ps m) ps.length := by simp [cellsUpto, List.range_succ, List.foldl_append]
theorem cellsUpto_length (ps : List Ins) : ∀ m, (cellsUpto ps m).length = ps.length
  | 0 => by simp [cellsUpto]
  | m + 1 => by rw [cellsUpto_succ, cellUpto_length, cellsUpto_length ps m]
def sureL (ps : List Ins) : List Int := if 4096 < ps.length then [] else cellsUpto ps 16

theorem bits16 (op : Nat → Nat → Nat) (bo : BinOp) (hb : ∀ x y : Int, bits bo .u16 x y = IntKind.u16.wrap ((op (BitVec.ofInt 16 x).toNat (BitVec.ofInt 16 y).toNat : Nat) : Int)) (hl : ∀ a b : Nat, a < 65536 → b < 65536 → op a b < 65536) (a b : Nat) (ha : a < 65536) (hbb : b < 65536) : bits bo .u16 (a : Int) (b : Int) = ((op a b : Nat) : Int) := by
  have h1 : (BitVec.ofInt 16 (a : Int)).toNat = a := by rw [BitVec.ofInt_natCast, BitVec.toNat_ofNat]; exact Nat.mod_eq_of_lt (by omega)
  have h2 : (BitVec.ofInt 16 (b : Int)).toNat = b := by rw [BitVec.ofInt_natCast, BitVec.toNat_ofNat]; exact Nat.mod_eq_of_lt (by omega)
  rw [hb, h1, h2]
  have := hl a b ha hbb
  exact IntWalk.u16_in _ (by omega)
theorem and16 (a b : Nat) (ha : a < 65536) (hb : b < 65536) : bits .and .u16 (a : Int) (b : Int) = ((a &&& b : Nat) : Int) :=
  bits16 (· &&& ·) .and (fun x y => by show IntKind.u16.wrap ((BitVec.ofInt 16 x &&& BitVec.ofInt 16 y).toNat : Int) = _; rw [BitVec.toNat_and]) (fun a b h1 h2 => Nat.and_lt_two_pow (n := 16) _ (by omega)) a b ha hb
theorem or16 (a b : Nat) (ha : a < 65536) (hb : b < 65536) : bits .or .u16 (a : Int) (b : Int) = ((a ||| b : Nat) : Int) :=
  bits16 (· ||| ·) .or (fun x y => by show IntKind.u16.wrap ((BitVec.ofInt 16 x ||| BitVec.ofInt 16 y).toNat : Int) = _; rw [BitVec.toNat_or]) (fun a b h1 h2 => Nat.or_lt_two_pow (n := 16) (by omega) (by omega)) a b ha hb
end Go.Proofs.Ytjlhfmedaandeaa

/- The plain law: the masks are the document's, cell by cell. No program is walked here. -/
namespace Go.Proofs.Ytjlhfmedaandeaa
open Go.RowKit
set_option linter.unusedVariables false
set_option linter.unusedSimpArgs false

theorem ent_store : ∀ e ∈ ents, (e.cls == 2) = (e.code == 2 || e.code == 3) := by
  intro e he
  simp only [ents, List.mem_cons, List.not_mem_nil, or_false] at he
  rcases he with rfl | rfl | rfl | rfl | rfl | rfl | rfl | rfl | rfl | rfl | rfl | rfl | rfl | rfl | rfl | rfl | rfl | rfl | rfl | rfl | rfl | rfl | rfl | rfl | rfl | rfl | rfl | rfl | rfl | rfl | rfl | rfl | rfl | rfl | rfl | rfl | rfl | rfl | rfl | rfl | rfl
  all_goals kernel_rfl
theorem cls_store (c : Int) : (clsOf c == 2) = (c == 2 || c == 3) := by
  unfold clsOf
  rcases by_cases_ c with h | ⟨e, he, rfl, h⟩
  · have h2 : c ≠ 2 := fun e => by
      subst e
      have h4 : (byE 2).2 = true := by kernel_rfl
      rw [h] at h4
      cases h4
    have h3 : c ≠ 3 := fun e => by
      subst e
      have h4 : (byE 3).2 = true := by kernel_rfl
      rw [h] at h4
      cases h4
    rw [h]
    have e2 : (c == 2) = false := by simpa using h2
    have e3 : (c == 3) = false := by simpa using h3
    rw [e2, e3]
    rfl
  · rw [h]
    exact ent_store e he
theorem wr_bit (i : Ins) (hi : i.ok) (c : Nat) (hc : c < 16) : ∃ x : Nat, wrM i = x ∧ x < 65536 ∧ x.testBit c = skipC i c := by
  have k0 : 0 ≤ i.k := hi.2.2.2.1
  obtain ⟨k, hk⟩ : ∃ k : Nat, i.k = k := ⟨i.k.toNat, by omega⟩
  unfold wrM skipC
  rw [cls_store, hk]
  cases (i.code == 2 || i.code == 3) with
  | false => exact ⟨0, by simp, by omega, by simp⟩
  | true =>
    by_cases h : k < 16
    · have hk' : ((k : Int) < 16) := by omega
      simp only [hk', decide_true, Bool.and_self, if_true, Bool.true_and, Int.toNat_natCast]
      refine ⟨2 ^ k, by simp, Nat.lt_of_lt_of_le (Nat.pow_lt_pow_right (by omega) h) (by decide), ?_⟩
      rw [Nat.testBit_two_pow]
      by_cases e : k = c
      · subst e; simp
      · have e2 : ¬ ((k : Int) = (c : Int)) := by omega
        simp [e, e2]
    · have hk' : ¬ ((k : Int) < 16) := by omega
      simp only [hk', decide_false, Bool.and_false, Bool.false_eq_true, if_false, Bool.true_and]
      refine ⟨0, rfl, by omega, ?_⟩
      have : ¬ ((k : Int) = (c : Int)) := by omega
      simp [this]

structure BitInv (c : Nat) (S : List Int) (R un : List Bool) : Prop where
  l1 : S.length = R.length
  l2 : un.length = R.length
  no : ∀ j, j < R.length → R.getD j false = false → un.getD j false = false
  yes : ∀ j, j < R.length → R.getD j false = true → ∃ x : Nat, S.getD j 0 = x ∧ x < 65536 ∧ x.testBit c = !un.getD j false
theorem come_bit {c : Nat} {S : List Int} {R un : List Bool} (h : BitInv c S R un) (mm : Nat) (hm : mm < 65536) (z : Nat) (hz : z < R.length) (hc : c < 16) :
    BitInv c (comeS S R z mm) (R.set z true) (if mm.testBit c then un else un.set z true) := by
  have hu : (if mm.testBit c then un else un.set z true).length = R.length := by split <;> simp [h.l2]
  refine ⟨by simp [comeS, h.l1], by simpa using hu, fun j hj hr => ?_, fun j hj hr => ?_⟩
  · rw [List.length_set] at hj
    rw [getD_set] at hr
    split at hr
    · cases hr
    · rename_i hne
      have h1 := h.no j hj hr
      have hne' : z ≠ j := fun e => hne ⟨e, hj⟩
      split
      · exact h1
      · rw [getD_set, if_neg (fun e => hne' e.1)]; exact h1
  · rw [List.length_set] at hj
    unfold comeS
    by_cases e : z = j
    · subst e
      rw [getD_set, if_pos ⟨rfl, by rw [h.l1]; exact hj⟩]
      cases hrz : R.getD z false with
      | true =>
        obtain ⟨x, h1, h2, h3⟩ := h.yes z hj hrz
        simp only [if_true]
        refine ⟨x &&& mm, by rw [h1, and16 x mm h2 hm], Nat.and_lt_two_pow (n := 16) _ (by omega), ?_⟩
        rw [Nat.testBit_and, h3]
        cases mm.testBit c with
        | true => simp
        | false => simp only [Bool.false_eq_true, if_false]; rw [getD_set, if_pos ⟨rfl, by rw [h.l2]; exact hj⟩]; simp
      | false =>
        have h1 := h.no z hj hrz
        simp only [Bool.false_eq_true, if_false]
        refine ⟨65535 &&& mm, by rw [show (65535 : Int) = ((65535 : Nat) : Int) from rfl, and16 65535 mm (by decide) hm], Nat.and_lt_two_pow (n := 16) _ (by omega), ?_⟩
        rw [Nat.testBit_and, show (65535 : Nat) = 2 ^ 16 - 1 from rfl, Nat.testBit_two_pow_sub_one]
        simp only [hc, decide_true, Bool.true_and]
        cases hb : mm.testBit c with
        | true => simp only [if_true]; rw [h1]; rfl
        | false => simp only [Bool.false_eq_true, if_false]; rw [getD_set, if_pos ⟨rfl, by rw [h.l2]; exact hj⟩]; rfl
    · rw [getD_set, if_neg (fun e' => e e'.1)]
      rw [getD_set, if_neg (fun e' => e e'.1)] at hr
      obtain ⟨x, h1, h2, h3⟩ := h.yes j hj hr
      refine ⟨x, h1, h2, ?_⟩
      split
      · exact h3
      · rw [getD_set, if_neg (fun e' => e e'.1)]; exact h3
theorem fold_bit {c : Nat} (mm : Nat) (hm : mm < 65536) (hc : c < 16) : ∀ (ns : List Int) (s : List Int × List Bool) (un : List Bool), BitInv c s.1 s.2 un → (∀ x ∈ ns, x.toNat < s.2.length) →
    BitInv c (ns.foldl (come1 mm) s).1 (ns.foldl (come1 mm) s).2 (if mm.testBit c then un else setAll un ns)
  | [], s, un, h, _ => by
    have : (if mm.testBit c then un else setAll un []) = un := by split <;> rfl
    rw [this]
    exact h
  | n :: ns, s, un, h, hn => by
    have h1 := come_bit h mm hm n.toNat (hn n (by simp)) hc
    have h2 := fold_bit mm hm hc ns (come1 mm s n) _ h1 (fun x hx => by have := hn x (by simp [hx]); simpa [come1] using this)
    rw [List.foldl_cons]
    have : (if mm.testBit c then (if mm.testBit c then un else un.set n.toNat true) else setAll (if mm.testBit c then un else un.set n.toNat true) ns) = (if mm.testBit c then un else setAll un (n :: ns)) := by
      cases mm.testBit c <;> rfl
    rw [this] at h2
    exact h2
theorem sure_bit (ps : List Ins) (hok : ∀ i ∈ ps, i.ok) (c : Nat) (hc : c < 16) : ∀ k, k ≤ ps.length → BitInv c (wupto ps k).1 (wupto ps k).2 (uupto ps c k)
  | 0, _ => by
    have e1 : (wupto ps 0).1 = List.replicate ps.length 0 := rfl
    have e2 : (wupto ps 0).2 = rstart ps.length := rfl
    have e3 : uupto ps c 0 = rstart ps.length := rfl
    rw [e1, e2, e3]
    refine ⟨by simp [rstart], rfl, fun j hj h => h, fun j hj h => ?_⟩
    rw [h]
    have hj' : j < ps.length := by simpa [rstart] using hj
    exact ⟨0, by simp [List.getD_eq_getElem?_getD, hj'], by omega, by simp⟩
  | k + 1, hk => by
    have ih := sure_bit ps hok c hc k (by omega)
    have hl := (wupto_len ps k).2
    have hkl : k < ps.length := by omega
    have hget : ps.getD k zeroI = ps[k] := by rw [List.getD_eq_getElem?_getD, List.getElem?_eq_getElem hkl]; rfl
    rw [wupto_succ, uupto_succ]
    unfold wstep ustep
    cases hr : (wupto ps k).2.getD k false with
    | false =>
      have := ih.no k (by omega) hr
      rw [this]
      simp only [Bool.false_eq_true, if_false]
      exact ih
    | true =>
      simp only [if_true]
      obtain ⟨x, h1, h2, h3⟩ := ih.yes k (by omega) hr
      rw [hget]
      obtain ⟨y, g1, g2, g3⟩ := wr_bit ps[k] (hok _ (List.getElem_mem hkl)) c hc
      rw [h1, g1, or16 x y h2 g2]
      have hm : x ||| y < 65536 := Nat.or_lt_two_pow (n := 16) (by omega) (by omega)
      have hf := fold_bit (x ||| y) hm hc (nextL ps k) (wupto ps k) (uupto ps c k) ih (fun z hz => by have := nextL_bd ps hok k z hz; omega)
      rw [Nat.testBit_or, h3, g3] at hf
      cases hu : (uupto ps c k).getD k false with
      | false =>
        rw [hu] at hf
        simpa using hf
      | true =>
        rw [hu] at hf
        cases hs : skipC ps[k] c with
        | true => rw [hs] at hf; simpa using hf
        | false => rw [hs] at hf; simpa using hf
theorem cell_get (ps : List Ins) (c : Nat) (out : List Int) (j : Nat) (hj : j < out.length) : ∀ k, (cellUpto ps c out k).getD j 0 = if j < k ∧ (uupto ps c j).getD j false = false then bits .or .u16 (out.getD j 0) (2 ^ c : Nat) else out.getD j 0
  | 0 => by simp [cellUpto]
  | k + 1 => by
    have ih := cell_get ps c out j hj k
    rw [cellUpto_succ]
    unfold sstep
    cases hu : (uupto ps c k).getD k false with
    | true =>
      simp only [if_true]
      rw [ih]
      by_cases h : k = j
      · subst h
        rw [if_neg (fun e => by rw [hu] at e; exact absurd e.2 (by decide)), if_neg (fun e => by rw [hu] at e; exact absurd e.2 (by decide))]
      · by_cases hh : j < k
        · simp only [hh, show j < k + 1 by omega, true_and]
        · simp only [hh, show ¬ j < k + 1 by omega, false_and]
    | false =>
      simp only [Bool.false_eq_true, if_false]
      rw [getD_set, cellUpto_length]
      by_cases h : k = j
      · subst h
        rw [if_pos ⟨rfl, hj⟩, if_pos ⟨by omega, hu⟩, ih, if_neg (fun e => by omega)]
      · rw [if_neg (fun e => h e.1), ih]
        by_cases hh : j < k
        · simp only [hh, show j < k + 1 by omega, true_and]
        · simp only [hh, show ¬ j < k + 1 by omega, false_and]
theorem cells_bit (ps : List Ins) (j : Nat) (hj : j < ps.length) : ∀ m, m ≤ 16 → ∃ y : Nat, (cellsUpto ps m).getD j 0 = y ∧ y < 65536 ∧ ∀ c, c < 16 → y.testBit c = (decide (c < m) && !(uupto ps c j).getD j false)
  | 0, _ => ⟨0, by simp [cellsUpto, List.getD_eq_getElem?_getD, hj], by omega, fun c hc => by simp⟩
  | m + 1, hm => by
    obtain ⟨y, h1, h2, h3⟩ := cells_bit ps j hj m (by omega)
    rw [cellsUpto_succ, cell_get ps m _ j (by rw [cellsUpto_length]; exact hj), h1]
    have hp : 2 ^ m < 65536 := Nat.lt_of_lt_of_le (Nat.pow_lt_pow_right (by omega) (show m < 16 by omega)) (by decide)
    by_cases hu : (uupto ps m j).getD j false = false
    · rw [if_pos ⟨hj, hu⟩]
      refine ⟨y ||| 2 ^ m, or16 y (2 ^ m) h2 hp, Nat.or_lt_two_pow (n := 16) (by omega) (by omega), fun c hc => ?_⟩
      rw [Nat.testBit_or, h3 c hc, Nat.testBit_two_pow]
      by_cases e : m = c
      · subst e; rw [hu]; simp
      · by_cases hcm : c < m
        · simp [e, hcm, show c < m + 1 by omega]
        · simp [e, hcm, show ¬ c < m + 1 by omega]
    · rw [if_neg (fun e => hu e.2)]
      refine ⟨y, rfl, h2, fun c hc => ?_⟩
      rw [h3 c hc]
      by_cases e : m = c
      · subst e
        have : (uupto ps m j).getD j false = true := by simpa using hu
        rw [this]; simp
      · by_cases hcm : c < m
        · simp [hcm, show c < m + 1 by omega]
        · simp [hcm, show ¬ c < m + 1 by omega]
theorem sureT_bit (ps : List Ins) (hok : ∀ i ∈ ps, i.ok) (hn : ¬ 4096 < ps.length) (j : Nat) (hj : j < ps.length) : ∃ x : Nat, (sureT ps).getD j 0 = x ∧ x < 65536 ∧ ∀ c, c < 16 → x.testBit c = !(uupto ps c j).getD j false := by
  unfold sureT
  rw [if_neg hn, masks_get ps _ j hj, ← wupto_snd]
  have hl := (wupto_len ps j).2
  by_cases hr : (wupto ps j).2.getD j false = true
  · rw [if_pos ⟨hj, hr⟩]
    obtain ⟨x, h1, h2, _⟩ := (sure_bit ps hok 0 (by omega) j (by omega)).yes j (by omega) hr
    refine ⟨x, h1, h2, fun c hc => ?_⟩
    obtain ⟨x', g1, g2, g3⟩ := (sure_bit ps hok c hc j (by omega)).yes j (by omega) hr
    have : x = x' := by omega
    rw [this]; exact g3
  · rw [if_neg (fun e => hr e.2)]
    refine ⟨65535, rfl, by omega, fun c hc => ?_⟩
    have := (sure_bit ps hok c hc j (by omega)).no j (by omega) (by simpa using hr)
    rw [this, show (65535 : Nat) = 2 ^ 16 - 1 from rfl, Nat.testBit_two_pow_sub_one]
    simp [hc]
theorem eq_of_bits (x y : Nat) (hx : x < 65536) (hy : y < 65536) (h : ∀ c, c < 16 → x.testBit c = y.testBit c) : x = y := by
  refine Nat.eq_of_testBit_eq fun c => ?_
  by_cases hc : c < 16
  · exact h c hc
  · have p : (65536 : Nat) ≤ 2 ^ c := by
      have : (2 : Nat) ^ 16 ≤ 2 ^ c := Nat.pow_le_pow_right (by omega) (by omega)
      omega
    rw [Nat.testBit_lt_two_pow (by omega), Nat.testBit_lt_two_pow (by omega)]
theorem sure_same (ps : List Ins) (hok : ∀ i ∈ ps, i.ok) : sureT ps = sureL ps := by
  by_cases hn : 4096 < ps.length
  · unfold sureT sureL
    rw [if_pos hn, if_pos hn]
  · have hl : (sureT ps).length = ps.length := by unfold sureT; rw [if_neg hn, masksOf_len]
    refine ext_getD 0 (by rw [hl]; unfold sureL; rw [if_neg hn, cellsUpto_length]) fun j hj => ?_
    rw [hl] at hj
    obtain ⟨x, h1, h2, h3⟩ := sureT_bit ps hok hn j hj
    obtain ⟨y, g1, g2, g3⟩ := cells_bit ps j hj 16 (by omega)
    have e : sureL ps = cellsUpto ps 16 := by unfold sureL; rw [if_neg hn]
    rw [e, h1, g1, eq_of_bits x y h2 g2 (fun c hc => by rw [h3 c hc, g3 c hc]; simp [hc])]
end Go.Proofs.Ytjlhfmedaandeaa

/- The document's Sure. -/
namespace Go.Proofs.Ytjlhfmedaandeaa
open Go.RowKit Go.ChangeShapes Go.WideShapes
set_option linter.unusedVariables false
set_option linter.unusedSimpArgs false

theorem rstart_zero : rstart 0 = [] := rfl
theorem pow16_wrap (m : Nat) (hm : m < 16) : IntKind.u16.wrap ((2 : Int) ^ m) = ((2 ^ m : Nat) : Int) := by
  have hp : 2 ^ m < 65536 := Nat.lt_of_lt_of_le (Nat.pow_lt_pow_right (by omega) hm) (by decide)
  have e : ((2 : Int) ^ m) = ((2 ^ m : Nat) : Int) := by simp
  rw [e]
  generalize 2 ^ m = x at *
  exact IntWalk.u16_in _ (by omega)
end Go.Proofs.Ytjlhfmedaandeaa

/- The document's Unsure; that it is what cells.Unsure computes. -/
namespace Go.Proofs.Ytjlhfmedaandeaa
open Go.RowKit Go.ChangeShapes Go.WideShapes
set_option linter.unusedVariables false
set_option linter.unusedSimpArgs false

def rdb (i : Ins) : Bool := (i.code == 96 || i.code == 97) && decide (i.k < 16)
/-- Does a place read a cell that isn't sure? (its mask, whether it is reached) -/
def badR (i : Ins) (r : Bool) (m : Int) : Bool := r && rdb i && (m / 2 ^ i.k.toNat % 2 == 0)
def unU (ps : List Ins) (k : Nat) : List Int := (List.range k).filterMap fun j => if badR (ps.getD j zeroI) ((reachL ps).getD j false) ((sureL ps).getD j 0) then some (j : Int) else none
def unsureL (ps : List Ins) : List Int := unU ps (sureL ps).length
theorem unU_succ (ps : List Ins) (k : Nat) : unU ps (k + 1) = unU ps k ++ (if badR (ps.getD k zeroI) ((reachL ps).getD k false) ((sureL ps).getD k 0) then [(k : Int)] else []) := by
  unfold unU
  rw [List.range_succ, List.filterMap_append]
  congr 1
  rw [List.filterMap_cons, List.filterMap_nil]
  cases badR (ps.getD k zeroI) ((reachL ps).getD k false) ((sureL ps).getD k 0) <;> rfl
theorem unU_len (ps : List Ins) (k : Nat) : (unU ps k).length ≤ k := Nat.le_trans (List.length_filterMap_le _ _) (by simp)

theorem andNot_bit (a b c : Nat) (hc : c < 16) : ((BitVec.ofInt 16 (a : Int)) &&& ~~~ (BitVec.ofInt 16 (b : Int))).toNat.testBit c = (a.testBit c && !b.testBit c) := by
  have e : ∀ x : Nat, (BitVec.ofInt 16 (x : Int)).getLsbD c = x.testBit c := fun x => by
    rw [BitVec.ofInt_natCast, BitVec.getLsbD_ofNat]
    simp [hc]
  have h : ∀ v : BitVec 16, v.toNat.testBit c = v.getLsbD c := fun v => rfl
  rw [h, BitVec.getLsbD_and, BitVec.getLsbD_not, e, e]
  simp [hc]
theorem andNot_pow (k m : Nat) (hk : k < 16) (hm : m < 65536) : (bits .andNot .u16 ((2 ^ k : Nat) : Int) (m : Int) != 0) = !m.testBit k := by
  have hb : bits .andNot .u16 ((2 ^ k : Nat) : Int) (m : Int) = ((((BitVec.ofInt 16 ((2 ^ k : Nat) : Int)) &&& ~~~ (BitVec.ofInt 16 (m : Int))).toNat : Nat) : Int) := by
    have hl := ((BitVec.ofInt 16 ((2 ^ k : Nat) : Int)) &&& ~~~ (BitVec.ofInt 16 (m : Int))).isLt
    show IntKind.u16.wrap ((((BitVec.ofInt 16 ((2 ^ k : Nat) : Int)) &&& ~~~ (BitVec.ofInt 16 (m : Int))).toNat : Nat) : Int) = _
    exact IntWalk.u16_in _ (by omega)
  rw [hb]
  have hbit := fun c hc => andNot_bit (2 ^ k) m c hc
  generalize ((BitVec.ofInt 16 ((2 ^ k : Nat) : Int)) &&& ~~~ (BitVec.ofInt 16 (m : Int))) = v at *
  cases ht : m.testBit k with
  | true =>
    have : v.toNat = 0 := eq_of_bits _ _ (by have := v.isLt; omega) (by omega) (fun c hc => by
      rw [hbit c hc, Nat.testBit_two_pow, Nat.zero_testBit]
      by_cases e : k = c
      · subst e; simp [ht]
      · simp [e])
    rw [this]
    rfl
  | false =>
    have h1 := hbit k hk
    rw [Nat.testBit_two_pow, ht] at h1
    have : v.toNat ≠ 0 := fun e => by rw [e] at h1; simp at h1
    have h2 : ((v.toNat : Nat) : Int) ≠ 0 := by omega
    simpa using h2
theorem bad_same (i : Ins) (hi : i.ok) (m : Nat) (hm : m < 65536) : badM i m = (rdb i && ((m : Int) / 2 ^ i.k.toNat % 2 == 0)) := by
  have k0 : 0 ≤ i.k := hi.2.2.2.1
  obtain ⟨k, hk⟩ : ∃ k : Nat, i.k = k := ⟨i.k.toNat, by omega⟩
  unfold badM rdM rdb
  rw [hk]
  cases (i.code == 96 || i.code == 97) with
  | false =>
    simp only [Bool.false_and, Bool.false_eq_true, if_false]
    have h : bits .andNot .u16 0 (m : Int) = 0 := by
      have := fun c hc => andNot_bit 0 m c hc
      show IntKind.u16.wrap (((BitVec.ofInt 16 ((0 : Nat) : Int)) &&& ~~~ (BitVec.ofInt 16 (m : Int))).toNat : Int) = 0
      have e : ((BitVec.ofInt 16 ((0 : Nat) : Int)) &&& ~~~ (BitVec.ofInt 16 (m : Int))).toNat = 0 := eq_of_bits _ _ (by have := ((BitVec.ofInt 16 ((0 : Nat) : Int)) &&& ~~~ (BitVec.ofInt 16 (m : Int))).isLt; omega) (by omega) (fun c hc => by rw [this c hc]; simp)
      rw [e]
      rfl
    rw [h]
    rfl
  | true =>
    by_cases h : k < 16
    · have hk' : ((k : Int) < 16) := by omega
      simp only [hk', decide_true, Bool.and_self, if_true, Int.toNat_natCast, Bool.true_and]
      have := andNot_pow k m h hm
      rw [show ((2 : Int) ^ k) = ((2 ^ k : Nat) : Int) by simp, this, Nat.testBit_eq_decide_div_mod_eq]
      have e : ((m : Int) / ((2 ^ k : Nat) : Int) % 2) = ((m / 2 ^ k % 2 : Nat) : Int) := by simp
      rw [e]
      have h2 : m / 2 ^ k % 2 < 2 := Nat.mod_lt _ (by omega)
      generalize m / 2 ^ k % 2 = r at *
      have : r = 0 ∨ r = 1 := by omega
      rcases this with rfl | rfl <;> rfl
    · have hk' : ¬ ((k : Int) < 16) := by omega
      simp only [hk', decide_false, Bool.and_false, Bool.false_eq_true, if_false, Bool.false_and]
      have h : bits .andNot .u16 0 (m : Int) = 0 := by
        have := fun c hc => andNot_bit 0 m c hc
        show IntKind.u16.wrap (((BitVec.ofInt 16 ((0 : Nat) : Int)) &&& ~~~ (BitVec.ofInt 16 (m : Int))).toNat : Int) = 0
        have e : ((BitVec.ofInt 16 ((0 : Nat) : Int)) &&& ~~~ (BitVec.ofInt 16 (m : Int))).toNat = 0 := eq_of_bits _ _ (by have := ((BitVec.ofInt 16 ((0 : Nat) : Int)) &&& ~~~ (BitVec.ofInt 16 (m : Int))).isLt; omega) (by omega) (fun c hc => by rw [this c hc]; simp)
        rw [e]
        rfl
      rw [h]
      rfl
theorem reach_get (ps : List Ins) (hok : ∀ i ∈ ps, i.ok) (hn : ¬ 4096 < ps.length) (j : Nat) (hj : j < ps.length) : (reachL ps).getD j false = (rupto ps j).getD j false := by
  unfold reachL
  rw [if_neg hn, show ps.length = j + (ps.length - j) by omega, rupto_stable ps hok j]
theorem unsure_upto (ps : List Ins) (hok : ∀ i ∈ ps, i.ok) (hn : ¬ 4096 < ps.length) : ∀ k, k ≤ ps.length → unsureOf ps (visits ps k) = unU ps k
  | 0, _ => rfl
  | k + 1, hk => by
    have hkl : k < ps.length := by omega
    have hget : ps.getD k zeroI = ps[k] := by rw [List.getD_eq_getElem?_getD, List.getElem?_eq_getElem hkl]; rfl
    have hik := hok _ (List.getElem_mem hkl)
    rw [visits_succ, unU_succ, wupto_snd, reach_get ps hok hn k hkl]
    cases hr : (rupto ps k).getD k false with
    | false =>
      simp only [Bool.false_eq_true, if_false, List.append_nil, badR, Bool.false_and]
      exact unsure_upto ps hok hn k (by omega)
    | true =>
      simp only [if_true]
      rw [unsureOf_snoc, unsure_upto ps hok hn k (by omega)]
      congr 1
      dsimp only
      obtain ⟨x, h1, h2, _⟩ := (sure_bit ps hok 0 (by omega) k (by omega)).yes k (by rw [(wupto_len ps k).2]; omega) (by rw [wupto_snd]; exact hr)
      have h3 : (sureL ps).getD k 0 = x := by
        rw [← sure_same ps hok]
        unfold sureT
        rw [if_neg hn, masks_get ps _ k hkl, if_pos ⟨hkl, hr⟩, h1]
      rw [h1, h3, hget, bad_same _ hik x h2]
      simp [badR]
theorem unsure_same (ps : List Ins) (hok : ∀ i ∈ ps, i.ok) : unsureT ps = unsureL ps := by
  unfold unsureT unsureL
  by_cases hn : 4096 < ps.length
  · rw [if_pos hn]
    have : sureL ps = [] := by unfold sureL; rw [if_pos hn]
    rw [this]
    rfl
  · rw [if_neg hn]
    have : (sureL ps).length = ps.length := by unfold sureL; rw [if_neg hn, cellsUpto_length]
    rw [this]
    exact unsure_upto ps hok hn _ (Nat.le_refl _)

theorem bools_cell' {l : List Bool} {k : Nat} (hk : k < l.length) : (l.map Value.bool)[k]? = some (.bool l[k]) := by simp [hk]
end Go.Proofs.Ytjlhfmedaandeaa
