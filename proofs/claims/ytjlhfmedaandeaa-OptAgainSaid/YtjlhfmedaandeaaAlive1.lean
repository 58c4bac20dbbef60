import Derived.Test.YtjlhfmedaandeaaSym1
/- Which instructions of a row are alive: plain law. -/
namespace Go.Proofs.Ytjlhfmedaandeaa
open Go.RowKit
set_option linter.unusedVariables false
set_option linter.unusedSimpArgs false

def jumpS (s : Sy) : Bool := s.code == 5 || asksC s.code
/-- Does an instruction at a place lead to another one? -/
def leadS (s : Sy) (k i : Nat) : Bool := (!jumpS s && !(s.code == 6) && decide (i = k + 1)) || (jumpS s && s.th == (i : Int)) || (asksC s.code && s.el == (i : Int))
def astep (ps : List Sy) (l : List Bool) (k : Nat) : List Bool :=
  if !l.getD k false || (ps.getD k zeroS).code == 6 then l
  else if !jumpS (ps.getD k zeroS) then l.set (k + 1) true
  else if asksC (ps.getD k zeroS).code then (l.set (ps.getD k zeroS).th.toNat true).set (ps.getD k zeroS).el.toNat true
  else l.set (ps.getD k zeroS).th.toNat true
def aupto (ps : List Sy) (k : Nat) : List Bool := (List.range k).foldl (astep ps) ((List.replicate ps.length false).set 0 true)
theorem aupto_succ (ps : List Sy) (k : Nat) : aupto ps (k + 1) = astep ps (aupto ps k) k := by simp [aupto, List.range_succ, List.foldl_append]
def aliveT (ps : List Sy) : List Bool := aupto ps ps.length
def aliveAt (ps : List Sy) (i : Nat) : Bool := (aupto ps i).getD i false
theorem astep_length (ps : List Sy) (l : List Bool) (k : Nat) : (astep ps l k).length = l.length := by
  unfold astep
  (repeat' split) <;> simp
theorem aupto_length (ps : List Sy) : ∀ k, (aupto ps k).length = ps.length
  | 0 => by simp [aupto]
  | k + 1 => by rw [aupto_succ, astep_length, aupto_length ps k]
theorem getD_setB (l : List Bool) (i j : Nat) (a : Bool) : (l.set i a).getD j false = if i = j ∧ j < l.length then a else l.getD j false := by
  simp only [List.getD_eq_getElem?_getD, List.getElem?_set]
  by_cases h : i = j
  · subst h
    by_cases h2 : i < l.length
    · simp [h2]
    · simp [h2]
  · simp [h]
structure MayL (ps : List Sy) : Prop where
  l1 : 1 ≤ ps.length
  l2 : ps.length ≤ 131072
  last : (ps.getD (ps.length - 1) zeroS).code = 6
  one : ∀ i, i < ps.length → mayS (ps.getD i zeroS) i ps.length = true
theorem mayL_of {ps : List Sy} (h : mayL ps = true) : MayL ps := by
  unfold mayL at h
  simp only [Bool.and_eq_true, decide_eq_true_eq, List.all_eq_true, List.mem_range, beq_iff_eq] at h
  exact ⟨h.1.1.1, h.1.1.2, h.1.2, h.2⟩
/-- The codes that may stand in a row, and where they lead. -/
inductive Kind (s : Sy) (a n : Int) : Prop where
  | ld (h : s.code = 32) (t : s.th = 0) (e : s.el = 0) (k : s.k % 4 = 0 ∧ s.k < 64) : Kind s a n
  | an (h : s.code = 84) (t : s.th = 0) (e : s.el = 0) : Kind s a n
  | re (h : s.code = 6) (t : s.th = 0) (e : s.el = 0) : Kind s a n
  | ja (h : s.code = 5) (k : s.k = 0) (e : s.el = 0) (t : a < s.th ∧ s.th < n) : Kind s a n
  | as (h : s.code = 21 ∨ s.code = 37 ∨ s.code = 53 ∨ s.code = 69) (t : a < s.th ∧ s.th < n) (e : a < s.el ∧ s.el < n) : Kind s a n
theorem kind_of {s : Sy} {a n : Int} (h : mayS s a n = true) : Kind s a n := by
  unfold mayS noneS thereS asksC at h
  by_cases h1 : s.code = 32
  · simp [h1] at h
    exact .ld h1 h.1.1 h.1.2 ⟨h.2.1, h.2.2⟩
  by_cases h2 : s.code = 84
  · simp [h2] at h
    exact .an h2 h.1 h.2
  by_cases h3 : s.code = 6
  · simp [h3] at h
    exact .re h3 h.1 h.2
  by_cases h4 : s.code = 5
  · simp [h4] at h
    exact .ja h4 h.1.1 h.1.2 h.2
  simp [h1, h2, h3, h4] at h
  exact .as (by have := h.1.1; omega) h.1.2 h.2
theorem setB_or (l : List Bool) (i j : Nat) (hj : j < l.length) : (l.set i true).getD j false = (l.getD j false || decide (i = j)) := by
  rw [getD_setB]
  by_cases e : i = j <;> simp [e, hj]
theorem int_eq_dec (t j : Nat) : ((t : Int) == (j : Int)) = decide (t = j) := by
  by_cases e : t = j
  · simp [e]
  · have : ¬ ((t : Int) = j) := by omega
    simp [e, this]
theorem b1 (d x y : Bool) : (true && true && d || false && x || false && y) = d := by cases d <;> rfl
theorem b2 (d x y : Bool) : (false && true && d || true && x || false && y) = x := by cases d <;> cases x <;> rfl
theorem b3 (d x y : Bool) : (false && true && d || true && x || true && y) = (x || y) := by cases d <;> cases x <;> cases y <;> rfl
theorem b4 (d x y : Bool) : (true && false && d || false && x || false && y) = false := by cases d <;> rfl
theorem lead_kind {s : Sy} {a n : Int} (h : Kind s a n) (k i : Nat) : leadS s k i = if s.code = 6 then false else if s.code = 32 ∨ s.code = 84 then decide (i = k + 1) else if s.code = 5 then s.th == (i : Int) else (s.th == (i : Int) || s.el == (i : Int)) := by
  unfold leadS jumpS asksC
  rcases h with ⟨h1, _, _, _⟩ | ⟨h1, _, _⟩ | ⟨h1, _, _⟩ | ⟨h1, _, _, _⟩ | ⟨h1, _, _⟩
  · rw [h1]; exact b1 _ _ _
  · rw [h1]; exact b1 _ _ _
  · rw [h1]; exact b4 _ _ _
  · rw [h1]; exact b2 _ _ _
  · rcases h1 with h1 | h1 | h1 | h1 <;> rw [h1] <;> exact b3 _ _ _
theorem astep_kind {s : Sy} {a n : Int} (h : Kind s a n) (ps : List Sy) (l : List Bool) (k : Nat) (hs : ps.getD k zeroS = s) (hl : l.getD k false = true) :
    astep ps l k = if s.code = 6 then l else if s.code = 32 ∨ s.code = 84 then l.set (k + 1) true else if s.code = 5 then l.set s.th.toNat true else (l.set s.th.toNat true).set s.el.toNat true := by
  unfold astep jumpS asksC
  rw [hs, hl]
  rcases h with ⟨h1, _, _, _⟩ | ⟨h1, _, _⟩ | ⟨h1, _, _⟩ | ⟨h1, _, _, _⟩ | ⟨h1, _, _⟩
  · rw [h1]; rfl
  · rw [h1]; rfl
  · rw [h1]; rfl
  · rw [h1]; rfl
  · rcases h1 with h1 | h1 | h1 | h1 <;> rw [h1] <;> rfl
theorem lead_later {ps : List Sy} (hm : MayL ps) (k i : Nat) (hk : k < ps.length) (h : leadS (ps.getD k zeroS) k i = true) : k < i := by
  have hk' := kind_of (hm.one k hk)
  rw [lead_kind hk'] at h
  generalize ps.getD k zeroS = s at *
  rcases hk' with ⟨h1, h2, h3, _⟩ | ⟨h1, h2, h3⟩ | ⟨h1, h2, h3⟩ | ⟨h1, _, h3, h2⟩ | ⟨h1, h2, h3⟩
  · rw [if_neg (by omega), if_pos (by omega)] at h
    have := of_decide_eq_true h
    omega
  · rw [if_neg (by omega), if_pos (by omega)] at h
    have := of_decide_eq_true h
    omega
  · rw [if_pos h1] at h; cases h
  · rw [if_neg (by omega), if_neg (by omega), if_pos h1] at h
    have := eq_of_beq h
    omega
  · rw [if_neg (by omega), if_neg (by omega), if_neg (by omega)] at h
    rcases Bool.or_eq_true _ _ ▸ h with h | h
    · have := eq_of_beq h
      omega
    · have := eq_of_beq h
      omega
theorem astep_get {ps : List Sy} (hm : MayL ps) (l : List Bool) (hl : l.length = ps.length) (k j : Nat) (hk : k < ps.length) (hj : j < ps.length) :
    (astep ps l k).getD j false = (l.getD j false || (l.getD k false && leadS (ps.getD k zeroS) k j)) := by
  have hk' := kind_of (hm.one k hk)
  have hjl : j < l.length := by omega
  rcases hv : l.getD k false with _ | _
  · have : astep ps l k = l := by
      unfold astep
      rw [hv]
      rfl
    rw [this]
    simp
  rw [lead_kind hk', astep_kind hk' ps l k rfl hv]
  generalize ps.getD k zeroS = s at *
  rcases hk' with ⟨h1, h2, h3, _⟩ | ⟨h1, h2, h3⟩ | ⟨h1, h2, h3⟩ | ⟨h1, _, h3, h2⟩ | ⟨h1, h2, h3⟩
  · rw [if_neg (by omega), if_pos (by omega), if_neg (by omega), if_pos (by omega), setB_or l _ j hjl, Bool.true_and, show decide (k + 1 = j) = decide (j = k + 1) from by rw [decide_eq_decide]; omega]
  · rw [if_neg (by omega), if_pos (by omega), if_neg (by omega), if_pos (by omega), setB_or l _ j hjl, Bool.true_and, show decide (k + 1 = j) = decide (j = k + 1) from by rw [decide_eq_decide]; omega]
  · rw [if_pos h1, if_pos h1, Bool.true_and, Bool.or_false]
  · obtain ⟨t, ht⟩ : ∃ t : Nat, s.th = t := ⟨s.th.toNat, by omega⟩
    rw [if_neg (by omega), if_neg (by omega), if_pos h1, if_neg (by omega), if_neg (by omega), if_pos h1, Bool.true_and, ht, Int.toNat_natCast, int_eq_dec, setB_or l _ j hjl]
  · obtain ⟨t, ht⟩ : ∃ t : Nat, s.th = t := ⟨s.th.toNat, by omega⟩
    obtain ⟨u, hu⟩ : ∃ u : Nat, s.el = u := ⟨s.el.toNat, by omega⟩
    rw [if_neg (by omega), if_neg (by omega), if_neg (by omega), if_neg (by omega), if_neg (by omega), if_neg (by omega), Bool.true_and, ht, hu, Int.toNat_natCast, Int.toNat_natCast, int_eq_dec, int_eq_dec, setB_or _ _ j (by rw [List.length_set]; exact hjl), setB_or l _ j hjl, Bool.or_assoc]
theorem aupto_get {ps : List Sy} (hm : MayL ps) (j : Nat) (hj : j < ps.length) : ∀ i, i ≤ ps.length → (aupto ps i).getD j false = (decide (j = 0) || (List.range i).any fun k => aliveAt ps k && leadS (ps.getD k zeroS) k j)
  | 0, _ => by
    simp only [aupto, List.range_zero, List.foldl_nil, List.any_nil, Bool.or_false]
    rw [getD_setB]
    by_cases h : 0 = j
    · simp [← h]; omega
    · have : ¬ j = 0 := fun e => h e.symm
      simp [h, this, List.getD_eq_getElem?_getD, hj]
  | i + 1, h => by
    rw [aupto_succ, astep_get hm _ (aupto_length ps i) i j (by omega) hj, aupto_get hm j hj i (by omega), List.range_succ, List.any_append]
    simp [aliveAt, Bool.or_assoc]
theorem aupto_stable {ps : List Sy} (hm : MayL ps) (j : Nat) (hj : j < ps.length) : ∀ d, j + d ≤ ps.length → (aupto ps (j + d)).getD j false = aliveAt ps j
  | 0, _ => rfl
  | d + 1, h => by
    rw [← Nat.add_assoc, aupto_succ, astep_get hm _ (aupto_length ps _) (j + d) j (by omega) hj, aupto_stable hm j hj d (by omega)]
    cases hl : leadS (ps.getD (j + d) zeroS) (j + d) j
    · simp
    · have := lead_later hm (j + d) j (by omega) hl
      omega
theorem alive_same {ps : List Sy} (hm : MayL ps) : aliveT ps = (List.range ps.length).map (aliveAt ps) := by
  have hl : (aliveT ps).length = ps.length := aupto_length ps _
  refine List.ext_getElem (by rw [hl]; simp) fun j h1 h2 => ?_
  have hj : j < ps.length := by omega
  have h := aupto_stable hm j hj (ps.length - j) (by omega)
  rw [show j + (ps.length - j) = ps.length by omega] at h
  have e : (aliveT ps)[j] = (aliveT ps).getD j false := by rw [List.getD_eq_getElem?_getD, List.getElem?_eq_getElem h1]; rfl
  rw [e]
  simp only [List.getElem_map, List.getElem_range]
  exact h
/-- What the document's inner loop comes to. -/
def inner (ps : List Sy) (i k : Nat) : Bool := decide (i = 0) || (List.range k).any fun k => aliveAt ps k && leadS (ps.getD k zeroS) k i
theorem inner_succ (ps : List Sy) (i k : Nat) : inner ps i (k + 1) = (inner ps i k || (aliveAt ps k && leadS (ps.getD k zeroS) k i)) := by
  unfold inner
  rw [List.range_succ, List.any_append]
  simp [Bool.or_assoc]
theorem inner_at {ps : List Sy} (hm : MayL ps) (i : Nat) (hi : i < ps.length) : inner ps i i = aliveAt ps i := (aupto_get hm i hi i (by omega)).symm
def fillA (ps : List Sy) (i : Nat) (v : Bool) (n : Nat) : List Bool := (List.range i).map (aliveAt ps) ++ v :: List.replicate (n - (i + 1)) false
end Go.Proofs.Ytjlhfmedaandeaa
