import Derived.Test.YtjlhfmedaandeaaOptP3
import Derived.Test.YtjlhfmedaandeaaAliveW
import Derived.Lib.SliceRun
/- opt.moved: what its walks share; slices.Clone of symbolic instructions. -/
namespace Go.Proofs.Ytjlhfmedaandeaa
open Go.RowKit Go.ChangeShapes Go.WideShapes
set_option linter.unusedVariables false
set_option linter.unusedSimpArgs false

theorem own_empty (w : World) (T : TypeId) : (w.alloc (.cells #[] T)).ownsRow w.heap.size T 4 (.slice (some ⟨w.heap.size, 0, none⟩) 0 0) 0 [] :=
  ⟨rfl, .inr ⟨_, 0, #[], rfl, Nat.le_refl _, Blk.new w T #[], Nat.le_refl _, Nat.zero_le _, rfl, rfl⟩⟩
theorem own_blk {w : World} {base : Nat} {T : TypeId} {n c : Nat} {A : Option Addr} {xs : List Value} (h : w.ownsRow base T 4 (.slice A n c) n xs) (n1 : 1 ≤ n) : ∃ g more, A = some ⟨g, 0, none⟩ ∧ Blk w g T (xs ++ more).toArray ∧ base ≤ g := by
  obtain ⟨hl, ⟨hv, h0⟩ | ⟨g, cap, cur, hv, hb, hh, _, _, _, ht⟩⟩ := h
  · omega
  · injection hv with hA
    refine ⟨g, cur.toList.drop (n * 4), hA, ?_, hb⟩
    unfold Blk
    rw [hh, ← ht, List.take_append_drop]
set_option maxRecDepth 100000 in
theorem cloneS (b o n c : Nat) (ps : List Sy) (w : World) (hp : ps.length = n) (n1 : 1 ≤ n) (n2 : n ≤ 131072) (hM : InM w (some ⟨b, o, none⟩) (sc ps)) :
    Calls Try.prog 67 #[.slice (some ⟨b, o, none⟩) n c] w fun e w' => ∃ g c' more, e = .returned (.slice (some ⟨g, 0, none⟩) n c') ∧ Blk w' g 32 (sc ps ++ more).toArray ∧ w.heap.size ≤ g ∧ Ext w w' := by
  obtain ⟨i0, hi, hz0, hz1, hz2⟩ := info_parts info_sym
  have hown := own_empty w 32
  have hx := (Ext.refl w).alloc (.cells #[] 32)
  have hl : (sc ps).length = n * 4 := by rw [sc_length]; omega
  have h1 := sc_one ps
  have HM := Lib.hid (hM.ext hx)
  have HI := Lib.hid hi; have HZ0 := Lib.hid hz0; have HZ1 := Lib.hid hz1; have HZ2 := Lib.hid hz2; have HL := Lib.hid hl
  have hb1 : 0 + n ≤ 1000000 := by omega
  have hnil : ∀ w : World, (binOp .eql 22 (.slice (some ⟨b, o, none⟩) n c) (.slice none 0 0)).run Try.prog w = .ok (.bool false) w := fun w => Lib.run_eql_slice_nil w _ 32 _ n c 0 0 Try.underlying22
  clear hi hz0 hz1 hz2 hp hl hM
  go_enter Try.func67, Try.ntmps67
  go_wp2_with (refine wpList_app rfl (.tmp 5) (.tmp 6) 22 rfl w.heap.size 32 i0 _ 4 24 Try.underlying22 HI.out HZ0.out HZ1.out HZ2.out rfl (by decide) (some ⟨w.heap.size, 0, none⟩) 0 0 [] rfl hown _ n c (sc ps) rfl HL.out HM.out h1 hb1 (by decide) hx.size ?_; intro A' c' w' hown' hgrow hzz; clear hzz)
  have hx2 := hx.app hown (Nat.le_refl _) hgrow
  rw [List.nil_append, Nat.zero_add] at hown'
  obtain ⟨g, more, rfl, hb, hg⟩ := own_blk hown' n1
  go_ret
  exact ⟨g, c', more, rfl, hb, hg, hx2⟩
/-- The first ones moved. -/
def mvUp (f : Int → Int) (ps : List Sy) (k : Nat) : List Sy := (List.range ps.length).map fun i => if i < k then mv f (ps.getD i zeroS) else ps.getD i zeroS
theorem mvUp_len (f : Int → Int) (ps : List Sy) (k : Nat) : (mvUp f ps k).length = ps.length := by simp [mvUp]
theorem mvUp_get (f : Int → Int) (ps : List Sy) (k i : Nat) (h : i < ps.length) : (mvUp f ps k).getD i zeroS = if i < k then mv f (ps.getD i zeroS) else ps.getD i zeroS := by
  simp [mvUp, List.getD_eq_getElem?_getD, h]
theorem mvUp_zero (f : Int → Int) (ps : List Sy) : mvUp f ps 0 = ps := ext_sy (mvUp_len _ _ _) fun i hi => by
  rw [mvUp_len] at hi
  rw [mvUp_get f ps 0 i hi, if_neg (by omega)]
theorem mvUp_all (f : Int → Int) (ps : List Sy) : mvUp f ps ps.length = ps.map (mv f) := ext_sy (by rw [mvUp_len, List.length_map]) fun i hi => by
  rw [mvUp_len] at hi
  rw [mvUp_get f ps _ i hi, if_pos hi, getD_map_sy _ _ _ hi]
theorem mvUp_succ (f : Int → Int) (ps : List Sy) (k : Nat) (h : k < ps.length) : (mvUp f ps k).set k (mv f (ps.getD k zeroS)) = mvUp f ps (k + 1) := ext_sy (by rw [List.length_set, mvUp_len, mvUp_len]) fun i hi => by
  rw [List.length_set, mvUp_len] at hi
  rw [getD_set_sy, mvUp_len, mvUp_get f ps k i hi, mvUp_get f ps (k + 1) i hi]
  by_cases e : k = i
  · subst e
    rw [if_pos ⟨rfl, hi⟩, if_pos (by omega)]
  · rw [if_neg (fun x => e x.1)]
    by_cases e2 : i < k
    · rw [if_pos e2, if_pos (by omega)]
    · rw [if_neg e2, if_neg (by omega)]
theorem mvUp_same (f : Int → Int) (ps : List Sy) (k : Nat) (h : k < ps.length) (hn : mv f (ps.getD k zeroS) = ps.getD k zeroS) : mvUp f ps (k + 1) = mvUp f ps k := ext_sy (by rw [mvUp_len, mvUp_len]) fun i hi => by
  rw [mvUp_len] at hi
  rw [mvUp_get f ps k i hi, mvUp_get f ps (k + 1) i hi]
  by_cases e : k = i
  · subst e
    rw [if_pos (by omega), if_neg (by omega), hn]
  · by_cases e2 : i < k
    · rw [if_pos e2, if_pos (by omega)]
    · rw [if_neg e2, if_neg (by omega)]
/-- One cell of a row is written. -/
theorem sc_setAt : ∀ (ps : List Sy) (k r : Nat) (v : Value) (s' : Sy) (hk : k < ps.length), r < 4 → ps[k].cells.toList.set r v = s'.cells.toList → (sc ps).set (k * 4 + r) v = sc (ps.set k s')
  | i :: ps, 0, r, v, s', _, hr, h => by
    rw [sc_cons, List.set_append_left _ _ (by simp [Sy.cells]; omega), Nat.zero_mul, Nat.zero_add]
    have h' : i.cells.toList.set r v = s'.cells.toList := h
    rw [h']
    rfl
  | i :: ps, k + 1, r, v, s', hk, hr, h => by
    have hk' : k < ps.length := by simpa using hk
    have := sc_setAt ps k r v s' hk' hr (by simpa using h)
    rw [sc_cons, List.set_append_right _ _ (by simp [Sy.cells]; omega)]
    have e : (k + 1) * 4 + r - i.cells.toList.length = k * 4 + r := by simp [Sy.cells]; omega
    rw [e, this]
    rfl
theorem blk_setAt {w : World} {g : Nat} {T : TypeId} {ps : List Sy} {more : List Value} (h : Blk w g T (sc ps ++ more).toArray) {k : Nat} (hk : k < ps.length) (r : Nat) (hr : r < 4) (v : Value) (s' : Sy) (hs : ps[k].cells.toList.set r v = s'.cells.toList) :
    Blk (w.setCell ⟨g, k * 4 + r, none⟩ v) g T (sc (ps.set k s') ++ more).toArray := by
  have := h.set_ (k * 4 + r) v
  rw [List.setIfInBounds_toArray, List.set_append_left _ _ (by rw [sc_length]; omega), sc_setAt ps k r v s' hk hr hs] at this
  exact this
theorem blk_th {w : World} {g : Nat} {T : TypeId} {ps : List Sy} {more : List Value} {k : Nat} {co kk th el : Int} (h : Blk w g T (sc ps ++ more).toArray) (hk : k < ps.length) (e : ps[k] = ⟨co, kk, th, el⟩) (x : Int) :
    Blk (w.setCell ⟨g, k * 4 + 2, none⟩ (.int .i64 x)) g T (sc (ps.set k ⟨co, kk, x, el⟩) ++ more).toArray := blk_setAt h hk 2 (by omega) _ _ (by rw [e]; rfl)
theorem blk_el {w : World} {g : Nat} {T : TypeId} {ps : List Sy} {more : List Value} {k : Nat} {co kk th el : Int} (h : Blk w g T (sc ps ++ more).toArray) (hk : k < ps.length) (e : ps[k] = ⟨co, kk, th, el⟩) (x : Int) :
    Blk (w.setCell ⟨g, k * 4 + 3, none⟩ (.int .i64 x)) g T (sc (ps.set k ⟨co, kk, th, x⟩) ++ more).toArray := blk_setAt h hk 3 (by omega) _ _ (by rw [e]; rfl)
theorem blk_sym {w : World} {g : Nat} {T : TypeId} {ps : List Sy} {more : List Value} {k : Nat} {co kk th el : Int} (h : Blk w g T (sc ps ++ more).toArray) (hk : k < ps.length) (e : ps[k] = ⟨co, kk, th, el⟩) :
    w.cell? ⟨g, k * 4, none⟩ = some (.int .u16 co) ∧ w.cell? ⟨g, k * 4 + 1, none⟩ = some (.int .u32 kk) ∧ w.cell? ⟨g, k * 4 + 2, none⟩ = some (.int .i64 th) ∧ w.cell? ⟨g, k * 4 + 3, none⟩ = some (.int .i64 el) := by
  have := sym_cells (InM.ofBlk h rfl).prefix_ hk
  simp only [Nat.zero_add, e] at this
  exact this
set_option maxRecDepth 100000 in
theorem optAsksNo (s : Sy) (q : Int) (h : (byE s.code).1.cls = q) (h4 : (q == 4) = false) (W : World) : Calls Try.prog 62 #[s.val] W fun e w' => e = .returned (.bool false) ∧ Ext W w' := by
  have HO := Lib.hid (fun W' => of_any s.code W')
  rw [h] at HO
  clear h
  obtain ⟨co, k, th, el⟩ := s
  unfold Sy.val Sy.cells
  dsimp only at *
  have hx := (Ext.refl W).alloc (.cells #[.int .u16 co, .int .u32 k, .int .i64 th, .int .i64 el] 32)
  have bs := Blk.new W 32 #[.int .u16 co, .int .u32 k, .int .i64 th, .int .i64 el]
  have s0 := (bs).cell 0
  have s1 := (bs).cell 1
  have s2 := (bs).cell 2
  have s3 := (bs).cell 3
  go_enter Try.func62, Try.ntmps62
  go_wp2_with fail
  refine (HO.out _).mono ?_
  rintro e w1 ⟨rfl, hx1⟩
  go_wp2_with fail
  go_ret
  exact ⟨rfl, hx.trans hx1⟩
theorem asks_any {s : Sy} {a n : Int} (hK : Kind s a n) (W : World) : Calls Try.prog 62 #[s.val] W fun e w' => e = .returned (.bool (asksC s.code)) ∧ Ext W w' := by
  have hc := kind_cls hK
  rcases hK with ⟨q, _, _, _⟩ | ⟨q, _, _⟩ | ⟨q, _, _⟩ | ⟨q, _, _, q1⟩ | ⟨q, q1, q2⟩
  · rw [q] at hc ⊢
    exact optAsksNo s 1 (by rw [q]; exact hc) rfl W
  · rw [q] at hc ⊢
    exact optAsksNo s 3 (by rw [q]; exact hc) rfl W
  · rw [q] at hc ⊢
    exact optAsksNo s 5 (by rw [q]; exact hc) rfl W
  · rw [q] at hc
    have h := optAsks s (by rw [q]; exact hc) W
    rw [q] at h ⊢
    exact h
  · have h := optAsks s (by rw [hc, if_neg (by omega), if_neg (by omega), if_neg (by omega)]) W
    rw [asks_code.2 q]
    rw [show (s.code != 5) = true by simp; omega] at h
    exact h
end Go.Proofs.Ytjlhfmedaandeaa
