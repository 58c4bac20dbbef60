import Derived.Test.YtkejcfbhikpibaaChk5
/- Plain laws of chapter 06: a program spoilt at a place; two programs one behind the other. No program is walked here. -/
namespace Go.Proofs.Ytkejcfbhikpibaa
open Go.RowKit
set_option linter.unusedVariables false
set_option linter.unusedSimpArgs false

theorem atE_first (ps : List Ins) (h : ¬ (ps.length < 1 ∨ 4096 < ps.length)) (k : Nat) (hk : k < ps.length) (he : errAt ps k ≠ 0) : ∃ j, j ≤ k ∧ atE ps = ((j : Int), errAt ps j) ∧ errAt ps j ≠ 0 := by
  induction k using Nat.strongRecOn with
  | _ k ih =>
    by_cases hall : ∀ j, j < k → errAt ps j = 0
    · exact ⟨k, Nat.le_refl _, atE_one ps h k hk hall he, he⟩
    · obtain ⟨j, hj⟩ : ∃ j, j < k ∧ errAt ps j ≠ 0 := by
        refine Classical.byContradiction fun hn => hall fun j hj => ?_
        exact Classical.byContradiction fun hz => hn ⟨j, hj, hz⟩
      obtain ⟨i, h1, h2, h3⟩ := ih j hj.1 (by omega) hj.2
      exact ⟨i, by omega, h2, h3⟩
/-- What a program that is taken is. -/
structure Taken (ps : List Ins) : Prop where
  l1 : 1 ≤ ps.length
  l2 : ps.length ≤ 4096
  ok : ∀ j, j < ps.length → errAt ps j = 0
  last : clsOf (ps.getD (ps.length - 1) zeroI).code = 5
  un : unsureL ps = []
theorem taken_of (ps : List Ins) (h : (atE ps).2 = 0) : Taken ps := by
  by_cases hs : ps.length < 1 ∨ 4096 < ps.length
  · rw [atE_size ps hs] at h
    exact absurd h (by decide)
  · have hall : ∀ j, j < ps.length → errAt ps j = 0 := fun j hj => by
      refine Classical.byContradiction fun hz => ?_
      obtain ⟨i, h1, h2, h3⟩ := atE_first ps hs j hj hz
      rw [h2] at h
      exact h3 h
    have hlast : clsOf (ps.getD (ps.length - 1) zeroI).code = 5 := by
      refine Classical.byContradiction fun hz => ?_
      rw [atE_end ps hs hall (by simpa using hz)] at h
      exact absurd h (by simp)
    refine ⟨by omega, by omega, hall, hlast, ?_⟩
    rw [atE_rest ps hs hall (by simpa using hlast)] at h
    cases hu : unsureL ps with
    | nil => rfl
    | cons x l => rw [hu] at h; exact absurd h (by simp)
theorem taken_at (ps : List Ins) (h : Taken ps) : atE ps = (0, 0) := by
  have hs : ¬ (ps.length < 1 ∨ 4096 < ps.length) := by have := h.l1; have := h.l2; omega
  rw [atE_rest ps hs h.ok (by simpa using h.last), h.un]

/-- More instructions behind: nothing more is wrong with one. -/
theorem oneE_mono (i : Ins) (l m : Int) (h0 : 0 ≤ l) (h : l ≤ m) (h1 : oneE i l = 0) : oneE i m = 0 := by
  unfold oneE at h1 ⊢
  split at h1
  · exact absurd h1 (by decide)
  split at h1
  · exact absurd h1 (by decide)
  split at h1
  · exact absurd h1 (by decide)
  split at h1
  · exact absurd h1 (by decide)
  split at h1
  · exact absurd h1 (by decide)
  split at h1
  · exact absurd h1 (by decide)
  rename_i g1 g2 g3 g4 g5 g6
  rw [if_neg g1, if_neg g2, if_neg g3, if_neg g4, if_neg g5, if_neg]
  unfold wr6 at g6 ⊢
  split
  · rename_i hc
    rw [if_pos hc] at g6
    simp at g6 ⊢
    omega
  · rename_i hc
    rw [if_neg hc] at g6
    simp at g6 ⊢
    intro h4
    have := g6 h4
    omega
/-- Where an instruction of which nothing is wrong leads to lies within. -/
theorem raw_in (i : Ins) (hi : i.ok) (k n : Nat) (hk : k < n) (h : oneE i ((n : Int) - 1 - k) = 0) (hl : k + 1 < n ∨ clsOf i.code = 5) : ∀ x ∈ wayRaw i k, x < n := by
  have hw : wr6 i (max ((n : Int) - 1 - k) 0) = false := by
    cases hw : wr6 i (max ((n : Int) - 1 - k) 0) with
    | false => rfl
    | true =>
      unfold oneE at h
      rw [hw] at h
      split at h
      · exact absurd h (by decide)
      split at h
      · exact absurd h (by decide)
      split at h
      · exact absurd h (by decide)
      split at h
      · exact absurd h (by decide)
      split at h
      · exact absurd h (by decide)
      · exact absurd h (by decide)
  have j0 := hi.2.1.1
  have f0 := hi.2.2.1.1
  have k0 := hi.2.2.2.1
  intro x hx
  unfold wayRaw at hx
  split at hx
  · cases hx
  rename_i h05
  have h5 : clsOf i.code ≠ 5 := fun e => h05 (by simp [e])
  have hl2 : k + 1 < n := hl.resolve_right h5
  split at hx
  · rename_i h4
    unfold wr6 at hw
    split at hx
    · rename_i hc
      rw [if_pos hc] at hw
      simp at hx hw
      omega
    · rename_i hc
      rw [if_neg hc] at hw
      rw [h4] at hw
      simp at hw
      split at hx
      · simp at hx; omega
      · simp at hx; omega
  · simp at hx
    omega
theorem takeWhile_all_in (n : Int) (L : List Int) (h : ∀ x ∈ L, x < n) : L.takeWhile (fun x => decide (x < n)) = L := takeWhile_all L (fun x hx => by simpa using h x hx)
/-- The two rows behind one another. -/
structure Both (a b : List Ins) : Prop where
  oka : ∀ i ∈ a, i.ok
  okb : ∀ i ∈ b, i.ok
  ta : Taken a
  len : a.length + b.length ≤ 4096
theorem both_get (a b : List Ins) (k : Nat) (hk : k < a.length) : (a ++ b).getD k zeroI = a.getD k zeroI := by
  rw [List.getD_eq_getElem?_getD, List.getD_eq_getElem?_getD, List.getElem?_append_left hk]
theorem both_next {a b : List Ins} (h : Both a b) (k : Nat) (hk : k < a.length) : nextL (a ++ b) (k : Int) = nextL a (k : Int) := by
  have hl := h.len
  have hk' : a.getD k zeroI = a[k] := by rw [List.getD_eq_getElem?_getD, List.getElem?_eq_getElem hk]; rfl
  have he := h.ta.ok k hk
  unfold errAt at he
  rw [hk'] at he
  have hlast : k + 1 < a.length ∨ clsOf a[k].code = 5 := by
    by_cases e : k + 1 < a.length
    · exact .inl e
    · right
      have := h.ta.last
      rw [show a.length - 1 = k by omega, hk'] at this
      exact this
  have hin := raw_in a[k] (h.oka _ (List.getElem_mem hk)) k a.length hk he hlast
  unfold nextL
  rw [if_neg (by rw [List.length_append]; omega), if_neg (by omega), Int.toNat_natCast, both_get a b k hk, hk']
  unfold wayL
  rw [takeWhile_all_in _ _ hin, takeWhile_all_in _ _ (fun x hx => by have := hin x hx; rw [List.length_append]; omega)]
theorem setAll_append (m : List Bool) : ∀ (ns : List Int) (l : List Bool), (∀ x ∈ ns, 0 ≤ x ∧ x < l.length) → setAll (l ++ m) ns = setAll l ns ++ m
  | [], l, _ => rfl
  | n :: ns, l, h => by
    have h0 := h n (by simp)
    have ih := setAll_append m ns (l.set n.toNat true) (fun x hx => by rw [List.length_set]; exact h x (by simp [hx]))
    simp only [setAll, List.foldl_cons] at ih ⊢
    rw [List.set_append_left _ _ (by omega)]
    exact ih
theorem rstart_append (n m : Nat) (h : 1 ≤ n) : rstart (n + m) = rstart n ++ List.replicate m false := by
  unfold rstart
  obtain ⟨k, rfl⟩ : ∃ k, n = k + 1 := ⟨n - 1, by omega⟩
  rw [show k + 1 + m = (k + m) + 1 by omega, List.replicate_succ, List.replicate_succ, List.set_cons_zero, List.set_cons_zero, List.cons_append, List.replicate_append_replicate]
theorem both_reach {a b : List Ins} (h : Both a b) : ∀ k, k ≤ a.length → rupto (a ++ b) k = rupto a k ++ List.replicate b.length false
  | 0, _ => by
    show rstart (a ++ b).length = rstart a.length ++ _
    rw [List.length_append, rstart_append _ _ h.ta.l1]
  | k + 1, hk => by
    have ih := both_reach h k (by omega)
    have hl := rupto_length a k
    rw [rupto_succ, rupto_succ, ih]
    unfold rstep
    have e : (rupto a k ++ List.replicate b.length false).getD k false = (rupto a k).getD k false := by
      rw [List.getD_eq_getElem?_getD, List.getD_eq_getElem?_getD, List.getElem?_append_left (by omega)]
    rw [e, both_next h k (by omega)]
    split
    · exact setAll_append _ _ _ (fun x hx => by have := nextL_bd a h.oka k x hx; omega)
    · rfl
theorem both_un {a b : List Ins} (h : Both a b) (c : Nat) : ∀ k, k ≤ a.length → uupto (a ++ b) c k = uupto a c k ++ List.replicate b.length false
  | 0, _ => by
    show rstart (a ++ b).length = rstart a.length ++ _
    rw [List.length_append, rstart_append _ _ h.ta.l1]
  | k + 1, hk => by
    have ih := both_un h c k (by omega)
    have hl := uupto_length a c k
    rw [uupto_succ, uupto_succ, ih]
    unfold ustep
    have e : (uupto a c k ++ List.replicate b.length false).getD k false = (uupto a c k).getD k false := by
      rw [List.getD_eq_getElem?_getD, List.getD_eq_getElem?_getD, List.getElem?_append_left (by omega)]
    rw [e, both_next h k (by omega), both_get a b k (by omega)]
    split
    · split
      · rfl
      · exact setAll_append _ _ _ (fun x hx => by have := nextL_bd a h.oka k x hx; omega)
    · rfl
theorem both_far {a b : List Ins} (h : Both a b) : ∀ d, d ≤ b.length → rupto (a ++ b) (a.length + d) = rupto a a.length ++ List.replicate b.length false
  | 0, _ => both_reach h _ (Nat.le_refl _)
  | d + 1, hd => by
    rw [← Nat.add_assoc, rupto_succ, both_far h d (by omega)]
    unfold rstep
    have e : (rupto a a.length ++ List.replicate b.length false).getD (a.length + d) false = false := by
      rw [List.getD_eq_getElem?_getD, List.getElem?_append_right (by rw [rupto_length]; omega), rupto_length]
      simp [show d < b.length by omega]
    rw [e]
    simp
theorem both_unsure {a b : List Ins} (h : Both a b) : unsureL (a ++ b) = [] := by
  have okab : ∀ i ∈ a ++ b, i.ok := fun i hi => by
    rcases List.mem_append.1 hi with g | g
    · exact h.oka i g
    · exact h.okb i g
  have hl := h.len
  have hn : ¬ 4096 < (a ++ b).length := by rw [List.length_append]; omega
  have hna : ¬ 4096 < a.length := by omega
  have hla : (sureL a).length = a.length := by unfold sureL; rw [if_neg hna, cellsUpto_length]
  unfold unsureL unU
  rw [List.filterMap_eq_nil_iff]
  intro j hj
  have hjl : j < a.length + b.length := by
    have : (sureL (a ++ b)).length = (a ++ b).length := by unfold sureL; rw [if_neg hn, cellsUpto_length]
    rw [this, List.length_append] at hj
    simpa using hj
  have hr : (reachL (a ++ b)).getD j false = (rupto a a.length ++ List.replicate b.length false).getD j false := by
    unfold reachL
    rw [if_neg hn, List.length_append, both_far h b.length (Nat.le_refl _)]
  by_cases hja : j < a.length
  · have hu := h.ta.un
    unfold unsureL unU at hu
    rw [List.filterMap_eq_nil_iff] at hu
    have hu := hu j (by rw [hla]; simpa using hja)
    have e1 : (reachL (a ++ b)).getD j false = (reachL a).getD j false := by
      rw [hr, List.getD_eq_getElem?_getD, List.getElem?_append_left (by rw [rupto_length]; exact hja), ← List.getD_eq_getElem?_getD]
      unfold reachL
      rw [if_neg hna]
    have e2 : (sureL (a ++ b)).getD j 0 = (sureL a).getD j 0 := by
      obtain ⟨x, h1, h2, h3⟩ := sureT_bit (a ++ b) okab hn j (by rw [List.length_append]; omega)
      obtain ⟨y, g1, g2, g3⟩ := sureT_bit a h.oka hna j hja
      rw [← sure_same _ okab, ← sure_same _ h.oka, h1, g1, eq_of_bits x y h2 g2 (fun c hc => ?_)]
      rw [h3 c hc, g3 c hc, both_un h c j (by omega)]
      rw [List.getD_eq_getElem?_getD, List.getD_eq_getElem?_getD, List.getElem?_append_left (by rw [uupto_length]; exact hja)]
    rw [e1, e2, both_get a b j hja]
    exact hu
  · have e1 : (reachL (a ++ b)).getD j false = false := by
      rw [hr, List.getD_eq_getElem?_getD, List.getElem?_append_right (by rw [rupto_length]; omega), rupto_length]
      simp [show j - a.length < b.length by omega]
    rw [e1]
    simp [badR]
theorem both_taken {a b : List Ins} (oka : ∀ i ∈ a, i.ok) (okb : ∀ i ∈ b, i.ok) (ha : Taken a) (hb : Taken b) (hl : a.length + b.length ≤ 4096) : Taken (a ++ b) := by
  have l1 := ha.l1
  have l2 := hb.l1
  refine ⟨by rw [List.length_append]; omega, by rw [List.length_append]; omega, fun j hj => ?_, ?_, both_unsure ⟨oka, okb, ha, hl⟩⟩
  · rw [List.length_append] at hj
    by_cases hja : j < a.length
    · have := ha.ok j hja
      unfold errAt at this ⊢
      rw [both_get a b j hja, List.length_append]
      exact oneE_mono _ _ _ (by omega) (by omega) this
    · have := hb.ok (j - a.length) (by omega)
      unfold errAt at this ⊢
      have e : (a ++ b).getD j zeroI = b.getD (j - a.length) zeroI := by
        rw [List.getD_eq_getElem?_getD, List.getD_eq_getElem?_getD, List.getElem?_append_right (by omega)]
      rw [e, List.length_append]
      rw [show (((a.length + b.length : Nat) : Int)) - 1 - j = (b.length : Int) - 1 - ((j - a.length : Nat) : Int) by omega]
      exact this
  · have := hb.last
    rw [List.length_append, List.getD_eq_getElem?_getD, List.getElem?_append_right (by omega), show a.length + b.length - 1 - a.length = b.length - 1 by omega, ← List.getD_eq_getElem?_getD]
    exact this
end Go.Proofs.Ytkejcfbhikpibaa
