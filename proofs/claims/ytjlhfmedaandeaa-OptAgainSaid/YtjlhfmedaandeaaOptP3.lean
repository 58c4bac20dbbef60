import Derived.Test.YtjlhfmedaandeaaOptP2
/- Dead as a plain function; a row whose dead ones are spoilt. -/
namespace Go.Proofs.Ytjlhfmedaandeaa
open Go.RowKit
set_option linter.unusedVariables false
set_option linter.unusedSimpArgs false

/-- A place that an instruction's jump leads to. -/
def Tgt (s : Sy) (t : Int) : Prop := (jumpS s = true ∧ s.th = t) ∨ (asksC s.code = true ∧ s.el = t)
theorem tgt_lead {s : Sy} {k i : Nat} (h : Tgt s i) : leadS s k i = true := by
  unfold leadS
  rcases h with ⟨a, b⟩ | ⟨a, b⟩
  · rw [a, b]; simp
  · rw [a, b]; simp
theorem ja_tgt {s : Sy} (h : s.code = 5) : Tgt s s.th := .inl ⟨by unfold jumpS; rw [h]; rfl, rfl⟩
theorem as_tgt {s : Sy} (h : asksC s.code = true) : Tgt s s.th ∧ Tgt s s.el := ⟨.inl ⟨by unfold jumpS; rw [h]; simp, rfl⟩, .inr ⟨h, rfl⟩⟩
theorem tgt_bd {s : Sy} {a n t : Int} (hK : Kind s a n) (h : Tgt s t) : a < t ∧ t < n := by
  unfold Tgt jumpS at h
  rcases hK with ⟨q, _, _, _⟩ | ⟨q, _, _⟩ | ⟨q, _, _⟩ | ⟨q, _, _, q1⟩ | ⟨q, q1, q2⟩
  · rw [q] at h; exact absurd h (by simp [asksC])
  · rw [q] at h; exact absurd h (by simp [asksC])
  · rw [q] at h; exact absurd h (by simp [asksC])
  · rcases h with ⟨_, h⟩ | ⟨h, _⟩
    · omega
    · rw [q] at h; exact absurd h (by decide)
  · rcases h with ⟨_, h⟩ | ⟨_, h⟩ <;> omega
theorem mv_kindT {f : Int → Int} {s : Sy} {a n b m : Int} (hK : Kind s a n) (h : ∀ t : Int, a < t → t < n → Tgt s t → b < f t ∧ f t < m) : Kind (mv f s) b m := by
  rcases hK with ⟨h1, h2, h3, h4⟩ | ⟨h1, h2, h3⟩ | ⟨h1, h2, h3⟩ | ⟨h1, h4, h3, h2⟩ | ⟨h1, h2, h3⟩
  · rw [mv_none f (.inl h1)]; exact .ld h1 h2 h3 h4
  · rw [mv_none f (.inr (.inl h1))]; exact .an h1 h2 h3
  · rw [mv_none f (.inr (.inr h1))]; exact .re h1 h2 h3
  · rw [mv_ja f h1]; exact .ja h1 h4 h3 (h _ h2.1 h2.2 (ja_tgt h1))
  · have ha := asks_code.2 h1
    rw [mv_asks f ha]; exact .as h1 (h _ h2.1 h2.2 (as_tgt ha).1) (h _ h3.1 h3.2 (as_tgt ha).2)
theorem alive_zero {ps : List Sy} (hm : MayL ps) : aliveAt ps 0 = true := by
  have := hm.l1
  have h := aupto_get hm 0 (by omega) 0 (by omega)
  unfold aliveAt
  rw [h]
  simp
theorem alive_lead {ps : List Sy} (hm : MayL ps) {k i : Nat} (hk : k < ps.length) (hi : i < ps.length) (ha : aliveAt ps k = true) (hl : leadS (ps.getD k zeroS) k i = true) : aliveAt ps i = true := by
  have hki := lead_later hm k i hk hl
  have h := aupto_get hm i hi i (by omega)
  show (aupto ps i).getD i false = true
  rw [h]
  simp only [Bool.or_eq_true, List.any_eq_true, List.mem_range]
  right
  exact ⟨k, hki, by rw [ha, hl]; rfl⟩
theorem alive_cases {ps : List Sy} (hm : MayL ps) {i : Nat} (hi : i < ps.length) (ha : aliveAt ps i = true) : i = 0 ∨ ∃ k, k < i ∧ aliveAt ps k = true ∧ leadS (ps.getD k zeroS) k i = true := by
  have h := aupto_get hm i hi i (by omega)
  have ha' : (aupto ps i).getD i false = true := ha
  rw [h] at ha'
  simp only [Bool.or_eq_true, List.any_eq_true, List.mem_range, decide_eq_true_eq, Bool.and_eq_true] at ha'
  rcases ha' with h0 | ⟨k, h1, h2, h3⟩
  · exact .inl h0
  · exact .inr ⟨k, h1, h2, h3⟩
/-- How many are alive ahead of a place. -/
def placeN (ps : List Sy) (i : Nat) : Nat := ((List.range i).filter (aliveAt ps)).length
def placeT (ps : List Sy) (t : Int) : Int := (placeN ps t.toNat : Nat)
def deadL (ps : List Sy) : List Sy := ((List.range ps.length).filter (aliveAt ps)).map fun i => mv (placeT ps) (ps.getD i zeroS)
theorem placeN_succ (ps : List Sy) (i : Nat) : placeN ps (i + 1) = placeN ps i + if aliveAt ps i = true then 1 else 0 := by
  unfold placeN
  rw [List.range_succ, List.filter_append, List.length_append]
  congr 1
  by_cases h : aliveAt ps i = true
  · simp [h]
  · simp [h]
theorem placeN_mono (ps : List Sy) (i : Nat) : ∀ d, placeN ps i ≤ placeN ps (i + d)
  | 0 => Nat.le_refl _
  | d + 1 => by
    have := placeN_mono ps i d
    rw [← Nat.add_assoc, placeN_succ]
    omega
theorem placeN_lt {ps : List Sy} {k i : Nat} (ha : aliveAt ps k = true) (h : k < i) : placeN ps k < placeN ps i := by
  have h1 := placeN_succ ps k
  rw [if_pos ha] at h1
  have h2 := placeN_mono ps (k + 1) (i - (k + 1))
  rw [show k + 1 + (i - (k + 1)) = i by omega] at h2
  omega
theorem placeN_le (ps : List Sy) (i : Nat) : placeN ps i ≤ i := by
  unfold placeN
  have := List.length_filter_le (aliveAt ps) (List.range i)
  rwa [List.length_range] at this
theorem placeN_zero (ps : List Sy) : placeN ps 0 = 0 := rfl
theorem dead_len (ps : List Sy) : (deadL ps).length = placeN ps ps.length := by unfold deadL placeN; rw [List.length_map]
theorem filt_get (ps : List Sy) (k : Nat) (ha : aliveAt ps k = true) : ∀ m, k < m → ((List.range m).filter (aliveAt ps))[placeN ps k]? = some k
  | 0, h => by omega
  | m + 1, h => by
    rw [List.range_succ, List.filter_append]
    by_cases e : k = m
    · subst e
      unfold placeN
      rw [List.getElem?_append_right (Nat.le_refl _), Nat.sub_self]
      simp [ha]
    · have hk : k < m := by omega
      rw [List.getElem?_append_left (placeN_lt ha hk)]
      exact filt_get ps k ha m hk
theorem dead_get (ps : List Sy) (k : Nat) (ha : aliveAt ps k = true) (hk : k < ps.length) : (deadL ps).getD (placeN ps k) zeroS = mv (placeT ps) (ps.getD k zeroS) := by
  unfold deadL
  rw [List.getD_eq_getElem?_getD, List.getElem?_map, filt_get ps k ha _ hk]
  rfl
theorem dead_from (ps : List Sy) : ∀ m j, j < placeN ps m → ∃ k, k < m ∧ aliveAt ps k = true ∧ placeN ps k = j
  | 0, j, h => by rw [placeN_zero] at h; omega
  | m + 1, j, h => by
    rw [placeN_succ] at h
    by_cases ha : aliveAt ps m = true
    · rw [if_pos ha] at h
      by_cases e : j = placeN ps m
      · exact ⟨m, by omega, ha, e.symm⟩
      · obtain ⟨k, a, b, c⟩ := dead_from ps m j (by omega)
        exact ⟨k, by omega, b, c⟩
    · rw [if_neg ha] at h
      obtain ⟨k, a, b, c⟩ := dead_from ps m j (by omega)
      exact ⟨k, by omega, b, c⟩
theorem dead_kind {ps : List Sy} (hm : MayL ps) (k : Nat) (hk : k < ps.length) (ha : aliveAt ps k = true) : Kind (mv (placeT ps) (ps.getD k zeroS)) (placeN ps k) (placeN ps ps.length) := by
  refine mv_kindT (kind_of (hm.one k hk)) fun t h1 h2 h3 => ?_
  obtain ⟨n, rfl⟩ : ∃ n : Nat, t = n := ⟨t.toNat, by omega⟩
  have hn := alive_lead hm hk (i := n) (by omega) ha (tgt_lead h3)
  unfold placeT
  rw [Int.toNat_natCast]
  have h4 := placeN_lt ha (show k < n by omega)
  have h5 := placeN_lt hn (show n < ps.length by omega)
  omega
theorem dead_may {ps : List Sy} (hm : MayL ps) : MayL (deadL ps) := by
  have h1 := hm.l1
  have h2 := hm.l2
  have h0 := placeN_lt (alive_zero hm) (show 0 < ps.length by omega)
  have h3 := placeN_le ps ps.length
  refine ⟨by rw [dead_len]; omega, by rw [dead_len]; omega, ?_, fun i hi => ?_⟩
  · rw [dead_len]
    obtain ⟨k, hk, ha, e⟩ := dead_from ps ps.length (placeN ps ps.length - 1) (by omega)
    rw [← e, dead_get ps k ha hk, mv_code]
    refine Classical.byContradiction fun hc => ?_
    obtain ⟨h4, h5, h6⟩ := nxt_lt hm id k 0 hk hc
    have h7 := alive_lead hm hk h6 ha h4
    have h8 := placeN_lt ha h5
    have h9 := placeN_lt h7 h6
    omega
  · rw [dead_len] at hi ⊢
    obtain ⟨k, hk, ha, e⟩ := dead_from ps ps.length i hi
    rw [← e, dead_get ps k ha hk]
    exact mayS_of (dead_kind hm k hk ha)
theorem dead_ok {ps : List Sy} (hm : MayL ps) (hok : ∀ i ∈ ps, i.ok) : ∀ i ∈ deadL ps, i.ok := fun i hi => by
  unfold deadL at hi
  obtain ⟨k, hk, rfl⟩ := List.mem_map.1 hi
  obtain ⟨hk1, ha⟩ := List.mem_filter.1 hk
  have hk2 : k < ps.length := List.mem_range.1 hk1
  have hg : ps.getD k zeroS = ps[k] := by simp [List.getD_eq_getElem?_getD, hk2]
  have ho := hok _ (List.getElem_mem hk2)
  rw [← hg] at ho
  obtain ⟨o1, o2, _, _⟩ := ho
  have hK := dead_kind hm k hk2 ha
  have hl := placeN_le ps ps.length
  have hl2 := hm.l2
  refine ⟨by rw [mv_code]; exact o1, by rw [mv_k]; exact o2, ?_⟩
  unfold I64
  rcases hK with ⟨_, h2, h3, _⟩ | ⟨_, h2, h3⟩ | ⟨_, h2, h3⟩ | ⟨_, _, h3, h2⟩ | ⟨_, h2, h3⟩ <;> omega
theorem dead_nxt {ps : List Sy} (hm : MayL ps) (ld : Int → Int) (k : Nat) (a : Int) (hk : k < ps.length) (ha : aliveAt ps k = true) (hc : (ps.getD k zeroS).code ≠ 6) :
    nxt ld (mv (placeT ps) (ps.getD k zeroS)) (placeN ps k) a = (placeN ps (nxt ld (ps.getD k zeroS) k a).1, (nxt ld (ps.getD k zeroS) k a).2) := by
  have hK := kind_of (hm.one k hk)
  have hp := placeN_succ ps k
  rw [if_pos ha] at hp
  generalize ps.getD k zeroS = s at *
  rcases hK with ⟨q, _, _, _⟩ | ⟨q, _, _⟩ | ⟨q, _, _⟩ | ⟨q, q0, q3, q1⟩ | ⟨q, q1, q2⟩
  · rw [mv_none _ (.inl q)]
    unfold nxt
    rw [if_pos q, if_pos q]
    show _ = (placeN ps (k + 1), _)
    rw [hp]
  · rw [mv_none _ (.inr (.inl q))]
    unfold nxt
    rw [if_neg (by omega), if_pos q, if_neg (by omega), if_pos q]
    show _ = (placeN ps (k + 1), _)
    rw [hp]
  · exact absurd q hc
  · rw [mv_ja _ q, nxt_ja q, nxt_ja (s := { s with th := placeT ps s.th }) q]
    show ((placeT ps s.th).toNat, a) = (placeN ps s.th.toNat, a)
    unfold placeT
    rw [Int.toNat_natCast]
  · have qa := asks_code.2 q
    have hh2 : holdS { s with th := placeT ps s.th, el := placeT ps s.el } a = holdS s a := holdS_code rfl rfl a
    rw [mv_asks _ qa, nxt_as (s := s) (by omega), nxt_as (s := { s with th := placeT ps s.th, el := placeT ps s.el }) (by dsimp only; omega), hh2]
    unfold placeT
    rw [Int.toNat_natCast, Int.toNat_natCast]
    cases holdS s a
    · rw [if_neg (by decide), if_neg (by decide)]
    · rw [if_pos rfl, if_pos rfl]
theorem dead_same {ps : List Sy} (hm : MayL ps) (ld : Int → Int) : ∀ (m k : Nat) (a : Int), ps.length - k ≤ m → k < ps.length → aliveAt ps k = true → runAt ld (deadL ps) (placeN ps k) a = runAt ld ps k a
  | 0, k, a, h, hk, _ => by omega
  | m + 1, k, a, h, hk, ha => by
    have hs := dead_may hm
    have hkq : placeN ps k < (deadL ps).length := by rw [dead_len]; exact placeN_lt ha hk
    have hg := dead_get ps k ha hk
    by_cases hc : (ps.getD k zeroS).code = 6
    · rw [runAt_ret hs ld _ a hkq (by rw [hg, mv_code]; exact hc), runAt_ret hm ld k a hk hc, hg, mv_k]
    · obtain ⟨h1, h2, h3⟩ := nxt_lt hm ld k a hk hc
      rw [runAt_next hs ld _ a hkq (by rw [hg, mv_code]; exact hc), runAt_next hm ld k a hk hc, hg, dead_nxt hm ld k a hk ha hc, dead_same hm ld m _ _ (by omega) h3 (alive_lead hm hk h3 ha h1)]
theorem dead_leads {ps : List Sy} (hm : MayL ps) (j k : Nat) (hj : j < ps.length) (hk : k < ps.length) (ha : aliveAt ps j = true) (hl : leadS (ps.getD j zeroS) j k = true) :
    leadS (mv (placeT ps) (ps.getD j zeroS)) (placeN ps j) (placeN ps k) = true := by
  have hK := kind_of (hm.one j hj)
  have hK2 := dead_kind hm j hj ha
  have hp := placeN_succ ps j
  rw [if_pos ha] at hp
  rw [lead_kind hK] at hl
  rw [lead_kind hK2, mv_code]
  generalize ps.getD j zeroS = s at *
  rcases hK with ⟨q, _, _, _⟩ | ⟨q, _, _⟩ | ⟨q, _, _⟩ | ⟨q, q0, q3, q1⟩ | ⟨q, q1, q2⟩
  · rw [if_neg (by omega), if_pos (by omega)] at hl ⊢
    rw [decide_eq_true_eq] at hl ⊢
    subst hl
    exact hp
  · rw [if_neg (by omega), if_pos (by omega)] at hl ⊢
    rw [decide_eq_true_eq] at hl ⊢
    subst hl
    exact hp
  · rw [if_pos q] at hl; cases hl
  · rw [if_neg (by omega), if_neg (by omega), if_pos q] at hl ⊢
    rw [beq_iff_eq] at hl ⊢
    rw [mv_ja _ q]
    show placeT ps s.th = _
    unfold placeT
    rw [hl, Int.toNat_natCast]
  · rw [if_neg (by omega), if_neg (by omega), if_neg (by omega)] at hl ⊢
    rw [Bool.or_eq_true, beq_iff_eq, beq_iff_eq] at hl ⊢
    rw [mv_asks _ (asks_code.2 q)]
    show placeT ps s.th = _ ∨ placeT ps s.el = _
    unfold placeT
    rcases hl with h | h
    · left; rw [h, Int.toNat_natCast]
    · right; rw [h, Int.toNat_natCast]
theorem dead_alive {ps : List Sy} (hm : MayL ps) : ∀ (m k : Nat), k ≤ m → k < ps.length → aliveAt ps k = true → aliveAt (deadL ps) (placeN ps k) = true
  | m, k, h, hk, ha => by
    have hs := dead_may hm
    rcases alive_cases hm hk ha with rfl | ⟨j, h1, h2, h3⟩
    · exact alive_zero hs
    · cases m with
      | zero => omega
      | succ m =>
        have ih := dead_alive hm m j (by omega) (by omega) h2
        refine alive_lead hs (k := placeN ps j) (by rw [dead_len]; exact placeN_lt h2 (by omega)) (by rw [dead_len]; exact placeN_lt ha hk) ih ?_
        rw [dead_get ps j h2 (by omega)]
        exact dead_leads hm j k (by omega) hk h2 h3
theorem dead_all {ps : List Sy} (hm : MayL ps) (j : Nat) (hj : j < (deadL ps).length) : aliveAt (deadL ps) j = true := by
  rw [dead_len] at hj
  obtain ⟨k, hk, ha, rfl⟩ := dead_from ps ps.length j hj
  exact dead_alive hm k k (Nat.le_refl _) hk ha
theorem placeN_all {ps : List Sy} (h : ∀ j, j < ps.length → aliveAt ps j = true) : ∀ i, i ≤ ps.length → placeN ps i = i
  | 0, _ => rfl
  | i + 1, hi => by rw [placeN_succ, placeN_all h i (by omega), if_pos (h i (by omega))]
theorem dead_id {ps : List Sy} (hm : MayL ps) (h : ∀ j, j < ps.length → aliveAt ps j = true) : deadL ps = ps := by
  have hl : (deadL ps).length = ps.length := by rw [dead_len, placeN_all h _ (Nat.le_refl _)]
  refine ext_sy hl fun i hi => ?_
  rw [hl] at hi
  have hg := dead_get ps i (h i hi) hi
  rw [placeN_all h i (by omega)] at hg
  rw [hg]
  refine mv_id (kind_of (hm.one i hi)) fun t h1 h2 => ?_
  unfold placeT
  rw [placeN_all h _ (by omega)]
  omega
theorem dead_twice {ps : List Sy} (hm : MayL ps) : deadL (deadL ps) = deadL ps := dead_id (dead_may hm) (dead_all hm)
/-- A row whose dead ones are rets of another answer. -/
def spoilL (ps : List Sy) (ans : Int) : List Sy := (List.range ps.length).map fun i => if aliveAt ps i = true then ps.getD i zeroS else ⟨6, ans, 0, 0⟩
theorem spoil_len (ps : List Sy) (ans : Int) : (spoilL ps ans).length = ps.length := by simp [spoilL]
theorem spoil_get (ps : List Sy) (ans : Int) (i : Nat) (h : i < ps.length) : (spoilL ps ans).getD i zeroS = if aliveAt ps i = true then ps.getD i zeroS else ⟨6, ans, 0, 0⟩ := by
  simp [spoilL, List.getD_eq_getElem?_getD, h]
theorem spoil_may {ps : List Sy} (hm : MayL ps) (ans : Int) : MayL (spoilL ps ans) := by
  refine ⟨by rw [spoil_len]; exact hm.l1, by rw [spoil_len]; exact hm.l2, ?_, fun i hi => ?_⟩
  · have := hm.l1
    rw [spoil_len, spoil_get ps ans _ (by omega)]
    split
    · exact hm.last
    · rfl
  · rw [spoil_len] at hi ⊢
    rw [spoil_get ps ans i hi]
    split
    · exact hm.one i hi
    · exact mayS_of (.re rfl rfl rfl)
theorem spoil_same {ps : List Sy} (hm : MayL ps) (ans : Int) (ld : Int → Int) : ∀ (m k : Nat) (a : Int), ps.length - k ≤ m → k < ps.length → aliveAt ps k = true → runAt ld (spoilL ps ans) k a = runAt ld ps k a
  | 0, k, a, h, hk, _ => by omega
  | m + 1, k, a, h, hk, ha => by
    have hs := spoil_may hm ans
    have hkq : k < (spoilL ps ans).length := by rw [spoil_len]; exact hk
    have hg := spoil_get ps ans k hk
    rw [if_pos ha] at hg
    by_cases hc : (ps.getD k zeroS).code = 6
    · rw [runAt_ret hs ld _ a hkq (by rw [hg]; exact hc), runAt_ret hm ld k a hk hc, hg]
    · obtain ⟨h1, h2, h3⟩ := nxt_lt hm ld k a hk hc
      rw [runAt_next hs ld _ a hkq (by rw [hg]; exact hc), runAt_next hm ld k a hk hc, hg, spoil_same hm ans ld m _ _ (by omega) h3 (alive_lead hm hk h3 ha h1)]
/-! ### The whole -/
def optL (ps : List Sy) : List Sy := deadL (threadL (shareL ps))
theorem opt_may {ps : List Sy} (hm : MayL ps) : MayL (optL ps) := dead_may (thread_may (share_may hm))
theorem share_run {ps : List Sy} (hm : MayL ps) (ld : Int → Int) : runS ld (shareL ps) = runS ld ps := share_same hm ld _ 0 0 (Nat.le_refl _) (by have := hm.l1; omega)
theorem thread_run {ps : List Sy} (hm : MayL ps) (ld : Int → Int) : (runS ld (threadL ps)).1 = (runS ld ps).1 ∧ (runS ld (threadL ps)).2 ≤ (runS ld ps).2 := thr_same hm (thread_thr hm) ld _ 0 0 (Nat.le_refl _) (by have := hm.l1; omega)
theorem dead_run {ps : List Sy} (hm : MayL ps) (ld : Int → Int) : runS ld (deadL ps) = runS ld ps := dead_same hm ld _ 0 0 (Nat.le_refl _) (by have := hm.l1; omega) (alive_zero hm)
theorem opt_run {ps : List Sy} (hm : MayL ps) (ld : Int → Int) : (runS ld (optL ps)).1 = (runS ld ps).1 ∧ (runS ld (optL ps)).2 ≤ (runS ld ps).2 := by
  have h1 := share_may hm
  unfold optL
  rw [dead_run (thread_may h1), ← share_run hm ld]
  exact thread_run h1 ld
theorem dead_le (ps : List Sy) : (deadL ps).length ≤ ps.length := by rw [dead_len]; exact placeN_le ps _
theorem opt_le {ps : List Sy} (hm : MayL ps) : (optL ps).length ≤ ps.length := by
  have h1 := dead_le (threadL (shareL ps))
  rw [thread_len (share_may hm), share_len] at h1
  exact h1
/-- What is optimised has no dead, and no jump to a ja. -/
theorem opt_clean {ps : List Sy} (hm : MayL ps) (j : Nat) (hj : j < (optL ps).length) : aliveAt (optL ps) j = true ∧ (∀ t : Nat, Tgt ((optL ps).getD j zeroS) t → ((optL ps).getD t zeroS).code ≠ 5) := by
  have h2 := thread_may (share_may hm)
  have hT := thread_thr (share_may hm)
  have hl : (threadL (shareL ps)).length = (shareL ps).length := thread_len (share_may hm)
  refine ⟨dead_all h2 j hj, fun t ht => ?_⟩
  unfold optL at hj ht ⊢
  rw [dead_len] at hj
  obtain ⟨k, hk, ha, rfl⟩ := dead_from _ _ j hj
  rw [dead_get _ k ha hk] at ht
  have g := thr_tg (share_may hm) hT k (by rw [← hl]; exact hk)
  have hK := kind_of (h2.one k hk)
  have fin : ∀ u : Nat, u < (threadL (shareL ps)).length → Tgt ((threadL (shareL ps)).getD k zeroS) u → ((deadL (threadL (shareL ps))).getD (placeN (threadL (shareL ps)) u) zeroS).code ≠ 5 := fun u hu hT2 => by
    have hau := alive_lead h2 hk hu ha (tgt_lead hT2)
    rw [dead_get _ u hau hu, mv_code]
    rcases hT2 with ⟨a, b⟩ | ⟨a, b⟩
    · exact g.ja u a b
    · exact g.as u a b
  generalize (threadL (shareL ps)).getD k zeroS = s at *
  rcases hK with ⟨q, _, _, _⟩ | ⟨q, _, _⟩ | ⟨q, _, _⟩ | ⟨q, q0, q3, q1⟩ | ⟨q, q1, q2⟩
  · rw [mv_none _ (.inl q)] at ht
    rcases ht with ⟨a, _⟩ | ⟨a, _⟩
    · unfold jumpS at a; rw [q] at a; exact absurd a (by decide)
    · rw [q] at a; exact absurd a (by decide)
  · rw [mv_none _ (.inr (.inl q))] at ht
    rcases ht with ⟨a, _⟩ | ⟨a, _⟩
    · unfold jumpS at a; rw [q] at a; exact absurd a (by decide)
    · rw [q] at a; exact absurd a (by decide)
  · rw [mv_none _ (.inr (.inr q))] at ht
    rcases ht with ⟨a, _⟩ | ⟨a, _⟩
    · unfold jumpS at a; rw [q] at a; exact absurd a (by decide)
    · rw [q] at a; exact absurd a (by decide)
  · rw [mv_ja _ q] at ht
    have hu := fin s.th.toNat (by omega) (by rw [show ((s.th.toNat : Nat) : Int) = s.th by omega]; exact ja_tgt q)
    rcases ht with ⟨_, b⟩ | ⟨a, _⟩
    · have : placeN (threadL (shareL ps)) s.th.toNat = t := Int.ofNat.inj b
      rw [← this]; exact hu
    · exact absurd (show asksC s.code = true from a) (by rw [q]; decide)
  · have qa := asks_code.2 q
    rw [mv_asks _ qa] at ht
    have hu := fin s.th.toNat (by omega) (by rw [show ((s.th.toNat : Nat) : Int) = s.th by omega]; exact (as_tgt qa).1)
    have hv := fin s.el.toNat (by omega) (by rw [show ((s.el.toNat : Nat) : Int) = s.el by omega]; exact (as_tgt qa).2)
    rcases ht with ⟨_, b⟩ | ⟨_, b⟩
    · have : placeN (threadL (shareL ps)) s.th.toNat = t := Int.ofNat.inj b
      rw [← this]; exact hu
    · have : placeN (threadL (shareL ps)) s.el.toNat = t := Int.ofNat.inj b
      rw [← this]; exact hv
end Go.Proofs.Ytjlhfmedaandeaa
