import Derived.Test.YtkejcfbhikpibaaWords
/- vestibuleref01.Same of any two lists; rows that lie far from a cell that is written. -/
namespace Go.Proofs.Ytkejcfbhikpibaa
open Go.RowKit Go.ChangeShapes Go.WideShapes
set_option linter.unusedVariables false
set_option linter.unusedSimpArgs false

theorem InM.far {W : World} {A : Option Addr} {xs : List Value} (h : InM W A xs) {p : Addr} (hp : ∀ a, A = some a → a.block ≠ p.block) (u : Value) : InM (W.setCell p u) A xs := fun j v hv => by
  obtain ⟨b, off, rfl, hc⟩ := h j v hv
  refine ⟨b, off, rfl, ?_⟩
  have := Below.heap_setCell W p u b (hp _ rfl)
  unfold World.cell? at *
  simp only at *
  rw [this]
  exact hc
theorem refSame_any (A B : Option Addr) (n c m d : Nat) (xs ys : List Int) (w : World) (hn : xs.length = n) (hm : ys.length = m) (hb : n ≤ 1000000)
    (h1 : InM w A (nums .u8 xs)) (h2 : InM w B (nums .u8 ys)) :
    Calls Try.prog 15 #[.slice A n c, .slice B m d] w fun e w' => e = .returned (.bool (decide (xs = ys))) ∧ Ext w w' := by
  have Hn := Lib.hid hn
  have Hm := Lib.hid hm
  obtain ⟨R, hR⟩ : ∃ R, decide (xs = ys) = R := ⟨_, rfl⟩
  rw [hR]
  have HR := Lib.hid hR
  clear hR
  by_cases hnm : n = m
  · subst hnm
    clear hn hm
    have hne : ((n : Int) != (n : Int)) = false := by simp
    go_enter Try.func15, Try.ntmps15
    go_wp2
    go_loopw [5] (fun i wr => ∃ k : Nat, k ≤ n ∧ i = .int .i64 k ∧ Ext w wr ∧ xs.take k = ys.take k) (fun i _ => n - (intOf i).toNat)
    case atStart => exact ⟨0, Nat.zero_le _, rfl, Ext.refl _, rfl⟩
    case round =>
      obtain ⟨k, hk, rfl, hy, ht⟩ := hrel
      have HT := Lib.hid ht
      clear ht
      by_cases hlt : k < n
      · have hlt1 : k < xs.length := by rw [Hn.out]; exact hlt
        have hlt2 : k < ys.length := by rw [Hm.out]; exact hlt
        obtain ⟨b1, o1, rfl, hb1, hc1⟩ := (h1.ext hy).num hlt1
        obtain ⟨b2, o2, rfl, hb2, hc2⟩ := (h2.ext hy).num hlt2
        have HX := Lib.hid (List.take_succ_eq_append_getElem hlt1)
        have HY := Lib.hid (List.take_succ_eq_append_getElem hlt2)
        have HE := Lib.hid (fun (e : xs = ys) => show xs[k] = ys[k] from by simp [e])
        generalize xs[k] = x at *
        generalize ys[k] = y at *
        clear h1 h2 hlt1 hlt2
        rcases hq : (x != y) with _ | _
        · have HQ := Lib.hid hq
          go_wp2
          go_quiet (fail)
          go_wp2
          go_roundw
          case rel =>
            refine ⟨k + 1, by omega, by go_num, by first | exact hy | exact hy.drewN _, ?_⟩
            have h3 : x = y := by simpa using HQ.out
            rw [HX.out, HY.out, HT.out, h3]
          case measure => simp [intOf]; omega
        · have hne2 : decide (xs = ys) = false := by
            rw [decide_eq_false_iff_not]
            intro e
            have := HE.out e
            simp [this] at hq
          have HNE := Lib.hid hne2
          clear hne2
          go_wp2
          go_quiet (fail)
          go_wp2
          go_ret
          exact ⟨by rw [← HR.out, HNE.out]; try rfl, by first | exact hy | exact hy.drewN _⟩
      · obtain rfl : k = n := by omega
        have he : decide (xs = ys) = true := by
          have h3 := HT.out
          rw [List.take_of_length_le (by rw [Hn.out]; exact Nat.le_refl _), List.take_of_length_le (by rw [Hm.out]; exact Nat.le_refl _)] at h3
          simpa using h3
        have HE := Lib.hid he
        clear he
        go_wp2
        go_ret
        exact ⟨by rw [← HR.out, HE.out]; try rfl, by first | exact hy | exact hy.drewN _⟩
  · have hne : ((n : Int) != (m : Int)) = true := by simp; omega
    have he : decide (xs = ys) = false := by
      rw [decide_eq_false_iff_not]
      intro e
      apply hnm
      rw [← hn, ← hm, e]
    have HE := Lib.hid he
    clear he
    clear hn hm
    go_enter Try.func15, Try.ntmps15
    go_wp2
    go_ret
    exact ⟨by rw [← HR.out, HE.out]; try rfl, Ext.refl _⟩
theorem info_bs : (Try.prog.info? 23).map (fun i => (i.zero, i.size, i.bytes)) = some (some (Value.slice none 0 0), 1, 24) := by kernel_rfl
/-- The lists that were copied so far. -/
structure Mine (w : World) (ls : List Sl) (g n k : Nat) (WA : Option Addr) (ms : List Sl) (W : World) : Prop where
  len : ms.length = k
  xs : ms.map Sl.xs = (ls.take k).map Sl.xs
  ok : ∀ s ∈ ms, s.ok W
  far : ∀ s ∈ ms, ∀ a, s.A = some a → g < a.block
  row : Blk W g 23 (ms.map Sl.val ++ List.replicate (n - k) (Value.slice none 0 0)).toArray
  want : InM W WA (nums .u8 (flat (ls.take k)))
  wfar : ∀ a, WA = some a → g < a.block
theorem flat_xs : ∀ {a b : List Sl}, a.map Sl.xs = b.map Sl.xs → flat a = flat b
  | [], [], _ => rfl
  | [], _ :: _, h => by simp at h
  | _ :: _, [], h => by simp at h
  | x :: a, y :: b, h => by
    simp only [List.map_cons, List.cons.injEq] at h
    show x.xs ++ flat a = y.xs ++ flat b
    rw [h.1, flat_xs h.2]
theorem tot_ok {w w' : World} : ∀ {a b : List Sl}, a.map Sl.xs = b.map Sl.xs → (∀ s ∈ a, s.ok w) → (∀ s ∈ b, s.ok w') → tot a = tot b
  | [], [], _, _, _ => rfl
  | [], _ :: _, h, _, _ => by simp at h
  | _ :: _, [], h, _, _ => by simp at h
  | x :: a, y :: b, h, hx, hy => by
    simp only [List.map_cons, List.cons.injEq] at h
    show x.n + tot a = y.n + tot b
    rw [tot_ok h.2 (fun s hs => hx s (by simp [hs])) (fun s hs => hy s (by simp [hs])), ← (hx x (by simp)).1, ← (hy y (by simp)).1, h.1]
theorem Mine.start {w : World} {ls : List Sl} {g n : Nat} {W : World} (h : Blk W g 23 (List.replicate n (Value.slice none 0 0)).toArray) : Mine w ls g n 0 none [] W :=
  ⟨rfl, rfl, (fun s h => by cases h), (fun s h => by cases h), by simpa using h, InM.nil _ _, (fun a h => by cases h)⟩
theorem Sl.ok_ext {s : Sl} {w w' : World} (h : s.ok w) (e : Ext w w') : s.ok w' := ⟨h.1, h.2.ext e⟩
theorem Mine.ext {w : World} {ls : List Sl} {g n k : Nat} {WA : Option Addr} {ms : List Sl} {W W' : World} (h : Mine w ls g n k WA ms W) (e : Ext W W') : Mine w ls g n k WA ms W' :=
  ⟨h.len, h.xs, fun s hs => Sl.ok_ext (h.ok s hs) e, h.far, h.row.ext e, h.want.ext e, h.wfar⟩
theorem Mine.step {w : World} {ls : List Sl} {g n k : Nat} {WA : Option Addr} {ms : List Sl} {W W1 W2 : World} (h : Mine w ls g n k WA ms W) (hk : k < n) (hkl : k < ls.length) (hokk : ls[k].xs.length = ls[k].n)
    (e1 : Ext W W1) (b1 : Blk W1 W.heap.size 5 (nums .u8 (flat (ls.take k) ++ ls[k].xs)).toArray) (e2 : Ext W1 W2) (b2 : Blk W2 W1.heap.size 5 (nums .u8 ls[k].xs).toArray) :
    Mine w ls g n (k + 1) (some ⟨W.heap.size, 0, none⟩) (ms ++ [⟨some ⟨W1.heap.size, 0, none⟩, ls[k].n, ls[k].n, ls[k].xs⟩]) (W2.setCell ⟨g, k, none⟩ (.slice (some ⟨W1.heap.size, 0, none⟩) ls[k].n ls[k].n)) := by
  have gW := h.row.lt
  have gW1 : W.heap.size < W1.heap.size := b1.lt
  have i1 : InM W2 (some ⟨W.heap.size, 0, none⟩) (nums .u8 (flat (ls.take k) ++ ls[k].xs)) := (InM.ofBlk b1 rfl).ext e2
  have i2 : InM W2 (some ⟨W1.heap.size, 0, none⟩) (nums .u8 ls[k].xs) := InM.ofBlk b2 rfl
  refine ⟨by simp [h.len], ?_, fun s hs => ?_, fun s hs a ha => ?_, ?_, ?_, fun a ha => ?_⟩
  · rw [List.map_append, h.xs, List.take_succ_eq_append_getElem hkl, List.map_append]
    rfl
  · rcases List.mem_append.1 hs with h1 | h1
    · exact ⟨(h.ok s h1).1, (((h.ok s h1).2.ext e1).ext e2).far (fun a ha => by have := h.far s h1 a ha; show a.block ≠ g; omega) _⟩
    · rw [List.mem_singleton.1 h1]
      exact ⟨hokk, i2.far (fun a ha => by injection ha with ha; subst ha; show W1.heap.size ≠ g; omega) _⟩
  · rcases List.mem_append.1 hs with h1 | h1
    · exact h.far s h1 a ha
    · rw [List.mem_singleton.1 h1] at ha
      injection ha with ha
      subst ha
      show g < W1.heap.size
      omega
  · have hs := (((h.row.ext e1).ext e2).set_ k (.slice (some ⟨W1.heap.size, 0, none⟩) ls[k].n ls[k].n))
    have e : (ms.map Sl.val ++ List.replicate (n - k) (Value.slice none 0 0)).toArray.setIfInBounds k (.slice (some ⟨W1.heap.size, 0, none⟩) ls[k].n ls[k].n) = ((ms ++ [(⟨some ⟨W1.heap.size, 0, none⟩, ls[k].n, ls[k].n, ls[k].xs⟩ : Sl)]).map Sl.val ++ List.replicate (n - (k + 1)) (Value.slice none 0 0)).toArray := by
      apply Array.toList_inj.1
      rw [Array.toList_setIfInBounds]
      simp only [List.toList_toArray]
      rw [List.set_append_right _ _ (by rw [List.length_map, h.len]; exact Nat.le_refl _), List.length_map, h.len, Nat.sub_self, show n - k = (n - (k + 1)) + 1 by omega, List.replicate_succ, List.set_cons_zero, List.map_append, List.append_assoc]
      rfl
    rw [e] at hs
    exact hs
  · rw [flat_take_succ ls k hkl]
    exact i1.far (fun a ha => by injection ha with ha; subst ha; show W.heap.size ≠ g; omega) _
  · injection ha with ha
    subst ha
    exact gW
theorem blk_list_set {w : World} {g : Nat} {t : TypeId} {cu : List Value} (h : Blk w g t cu.toArray) (i : Nat) (u : Value) : Blk (w.setCell ⟨g, i, none⟩ u) g t (cu.set i u).toArray := by
  have := h.set_ i u
  rw [List.setIfInBounds_toArray] at this
  exact this
theorem own_bytes {w : World} {base n c : Nat} {t : TypeId} {A : Option Addr} {xs : List Int} (h : w.ownsRow base t 1 (.slice A n c) n (nums .u8 xs)) :
    n = 0 ∨ ∃ (g : Nat) (cur : List Value), A = some ⟨g, 0, none⟩ ∧ base ≤ g ∧ Blk w g t cur.toArray ∧ n ≤ cur.length ∧ ∀ j, j < n → ∃ v, cur[j]? = some (.int .u8 v) := by
  obtain ⟨h1, ⟨hv, h0⟩ | ⟨g', cap', cur, hv, hb, hh, hn, hm, hs, ht⟩⟩ := h
  · exact .inl h0
  · injection hv with e1 _ e2
    rw [List.length_map] at h1
    have hlen : xs.length = n := by omega
    have hcs : cur.toList.length = cap' * 1 := by simpa using hs
    refine .inr ⟨g', cur.toList, e1, hb, by unfold Blk; simpa using hh, by omega, fun j hj => ?_⟩
    rw [Nat.mul_one] at ht
    have h2 : (nums .u8 xs)[j]? = some (.int .u8 (xs[j]'(by omega))) := nums_at (by omega)
    rw [← ht, List.getElem?_take_of_lt hj] at h2
    exact ⟨_, h2⟩
end Go.Proofs.Ytkejcfbhikpibaa
