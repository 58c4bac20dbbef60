import Derived.Test.YtjlhfmedaandeaaRunP
/- The passes of opt as plain functions: what each makes of a row; it may be, and tells the same. -/
namespace Go.Proofs.Ytjlhfmedaandeaa
open Go.RowKit
set_option linter.unusedVariables false
set_option linter.unusedSimpArgs false

theorem kind_jump {s : Sy} {a n : Int} (h : Kind s a n) : (jumpS s = true ↔ s.code = 5 ∨ asksC s.code = true) := by unfold jumpS; simp
/-- May, from its parts. -/
theorem mayS_of {s : Sy} {a n : Int} (h : Kind s a n) : mayS s a n = true := by
  unfold mayS noneS thereS asksC
  rcases h with ⟨h1, h2, h3, h4, h5⟩ | ⟨h1, h2, h3⟩ | ⟨h1, h2, h3⟩ | ⟨h1, h4, h3, h2, h5⟩ | ⟨h1, ⟨h2, h4⟩, h3, h5⟩
  · simp [h1, h2, h3, h4, h5]
  · simp [h1, h2, h3]
  · simp [h1, h2, h3]
  · simp [h1, h2, h3, h4, h5]
  · rcases h1 with h1 | h1 | h1 | h1 <;> simp [h1, h2, h3, h4, h5]
theorem mayL_mk {ps : List Sy} (h : MayL ps) : mayL ps = true := by
  unfold mayL
  simp only [Bool.and_eq_true, decide_eq_true_eq, List.all_eq_true, List.mem_range, beq_iff_eq]
  exact ⟨⟨⟨h.l1, h.l2⟩, h.last⟩, h.one⟩
/-- An instruction whose jumps lead to other places. -/
def mv (f : Int → Int) (s : Sy) : Sy := if asksC s.code then { s with th := f s.th, el := f s.el } else if s.code = 5 then { s with th := f s.th } else s
theorem mv_code (f : Int → Int) (s : Sy) : (mv f s).code = s.code := by unfold mv; (repeat' split) <;> rfl
theorem mv_k (f : Int → Int) (s : Sy) : (mv f s).k = s.k := by unfold mv; (repeat' split) <;> rfl
theorem mv_none (f : Int → Int) {s : Sy} (h : s.code = 32 ∨ s.code = 84 ∨ s.code = 6) : mv f s = s := by
  unfold mv
  have ha : asksC s.code = false := by
    cases e : asksC s.code
    · rfl
    · rw [asks_code] at e; omega
  rw [if_neg (by rw [ha]; decide), if_neg (by omega)]
theorem mv_ja (f : Int → Int) {s : Sy} (h : s.code = 5) : mv f s = { s with th := f s.th } := by
  unfold mv
  rw [if_neg (by rw [h]; decide), if_pos h]
theorem mv_asks (f : Int → Int) {s : Sy} (h : asksC s.code = true) : mv f s = { s with th := f s.th, el := f s.el } := by
  unfold mv
  rw [if_pos h]
theorem mv_id {f : Int → Int} {s : Sy} {a n : Int} (hK : Kind s a n) (h : ∀ t : Int, a < t → t < n → f t = t) : mv f s = s := by
  rcases hK with ⟨h1, _, _, _⟩ | ⟨h1, _, _⟩ | ⟨h1, _, _⟩ | ⟨h1, _, _, h2⟩ | ⟨h1, h2, h3⟩
  · exact mv_none f (.inl h1)
  · exact mv_none f (.inr (.inl h1))
  · exact mv_none f (.inr (.inr h1))
  · rw [mv_ja f h1, h _ h2.1 h2.2]
  · rw [mv_asks f (asks_code.2 h1), h _ h2.1 h2.2, h _ h3.1 h3.2]
theorem mv_kind {f : Int → Int} {s : Sy} {a n b m : Int} (hK : Kind s a n) (h : ∀ t : Int, a < t → t < n → b < f t ∧ f t < m) : Kind (mv f s) b m := by
  rcases hK with ⟨h1, h2, h3, h4⟩ | ⟨h1, h2, h3⟩ | ⟨h1, h2, h3⟩ | ⟨h1, h4, h3, h2⟩ | ⟨h1, h2, h3⟩
  · rw [mv_none f (.inl h1)]; exact .ld h1 h2 h3 h4
  · rw [mv_none f (.inr (.inl h1))]; exact .an h1 h2 h3
  · rw [mv_none f (.inr (.inr h1))]; exact .re h1 h2 h3
  · rw [mv_ja f h1]; exact .ja h1 h4 h3 (h _ h2.1 h2.2)
  · rw [mv_asks f (asks_code.2 h1)]; exact .as h1 (h _ h2.1 h2.2) (h _ h3.1 h3.2)
theorem mv_mv (f g : Int → Int) (s : Sy) : mv f (mv g s) = mv (fun t => f (g t)) s := by
  unfold mv
  by_cases ha : asksC s.code = true
  · simp [ha]
  · by_cases h5 : s.code = 5
    · have e := mv_ja g h5
      have e1 := mv_ja (s := { s with th := g s.th }) f h5
      have e2 := mv_ja (fun t => f (g t)) h5
      unfold mv at e e1 e2
      rw [e, e1, e2]
    · simp [ha, h5]
theorem mv_congr {f g : Int → Int} {s : Sy} {a n : Int} (hK : Kind s a n) (h : ∀ t : Int, a < t → t < n → f t = g t) : mv f s = mv g s := by
  rcases hK with ⟨h1, _, _, _⟩ | ⟨h1, _, _⟩ | ⟨h1, _, _⟩ | ⟨h1, _, _, h2⟩ | ⟨h1, h2, h3⟩
  · rw [mv_none f (.inl h1), mv_none g (.inl h1)]
  · rw [mv_none f (.inr (.inl h1)), mv_none g (.inr (.inl h1))]
  · rw [mv_none f (.inr (.inr h1)), mv_none g (.inr (.inr h1))]
  · rw [mv_ja f h1, mv_ja g h1, h _ h2.1 h2.2]
  · rw [mv_asks f (asks_code.2 h1), mv_asks g (asks_code.2 h1), h _ h2.1 h2.2, h _ h3.1 h3.2]
theorem getD_map_sy (f : Sy → Sy) (ps : List Sy) (i : Nat) (h : i < ps.length) : (ps.map f).getD i zeroS = f (ps.getD i zeroS) := by
  simp [List.getD_eq_getElem?_getD, h]
theorem ext_sy {a b : List Sy} (hl : a.length = b.length) (h : ∀ i, i < a.length → a.getD i zeroS = b.getD i zeroS) : a = b := by
  refine List.ext_getElem hl fun i h1 h2 => ?_
  have := h i h1
  simpa [List.getD_eq_getElem?_getD, h1, h2] using this
/-- Two rows tell the same from places on; the second in no more steps. -/
def Tells2 (ld : Int → Int) (ps qs : List Sy) (k j : Nat) : Prop := ∀ a, (runAt ld qs j a).1 = (runAt ld ps k a).1 ∧ (runAt ld qs j a).2 ≤ (runAt ld ps k a).2

/-! ### Share -/
/-- The place of the last ret that is as the one at a place. -/
def lastR (ps : List Sy) (kk : Int) (z : Nat) : Nat → Nat
  | 0 => z
  | m + 1 => if (ps.getD m zeroS).code = 6 ∧ (ps.getD m zeroS).k = kk then m else lastR ps kk z m
def lastT (ps : List Sy) (t : Int) : Int := if (ps.getD t.toNat zeroS).code = 6 then (lastR ps (ps.getD t.toNat zeroS).k 0 ps.length : Nat) else t
def shareL (ps : List Sy) : List Sy := ps.map (mv (lastT ps))
theorem lastR_ge (ps : List Sy) (kk : Int) (z : Nat) : ∀ m t, t < m → (ps.getD t zeroS).code = 6 → (ps.getD t zeroS).k = kk →
    t ≤ lastR ps kk z m ∧ lastR ps kk z m < m ∧ (ps.getD (lastR ps kk z m) zeroS).code = 6 ∧ (ps.getD (lastR ps kk z m) zeroS).k = kk
  | 0, t, h, _, _ => by omega
  | m + 1, t, h, h1, h2 => by
    unfold lastR
    by_cases e : (ps.getD m zeroS).code = 6 ∧ (ps.getD m zeroS).k = kk
    · rw [if_pos e]
      exact ⟨by omega, by omega, e.1, e.2⟩
    · rw [if_neg e]
      have ht : t < m := by
        by_cases e2 : t = m
        · subst e2; exact absurd ⟨h1, h2⟩ e
        · omega
      obtain ⟨a, b, c, d⟩ := lastR_ge ps kk z m t ht h1 h2
      exact ⟨a, by omega, c, d⟩
theorem lastT_nat (ps : List Sy) (t : Nat) (ht : t < ps.length) : ∃ u : Nat, lastT ps t = u ∧ t ≤ u ∧ u < ps.length ∧ (ps.getD u zeroS).code = (ps.getD t zeroS).code ∧ ((ps.getD t zeroS).code = 6 → (ps.getD u zeroS).k = (ps.getD t zeroS).k) ∧ ((ps.getD t zeroS).code ≠ 6 → u = t) := by
  unfold lastT
  rw [Int.toNat_natCast]
  by_cases h : (ps.getD t zeroS).code = 6
  · rw [if_pos h]
    obtain ⟨a, b, c, d⟩ := lastR_ge ps (ps.getD t zeroS).k 0 ps.length t ht h rfl
    exact ⟨_, rfl, a, b, by rw [c, h], fun _ => d, fun e => absurd h e⟩
  · rw [if_neg h]
    exact ⟨t, rfl, Nat.le_refl _, ht, rfl, fun _ => rfl, fun _ => rfl⟩
theorem share_len (ps : List Sy) : (shareL ps).length = ps.length := by simp [shareL]
theorem share_get (ps : List Sy) (i : Nat) (h : i < ps.length) : (shareL ps).getD i zeroS = mv (lastT ps) (ps.getD i zeroS) := getD_map_sy _ ps i h
theorem share_may {ps : List Sy} (hm : MayL ps) : MayL (shareL ps) := by
  refine ⟨by rw [share_len]; exact hm.l1, by rw [share_len]; exact hm.l2, ?_, fun i hi => ?_⟩
  · have := hm.l1
    rw [share_len, share_get ps _ (by omega), mv_code]
    exact hm.last
  · rw [share_len] at hi ⊢
    rw [share_get ps i hi]
    refine mayS_of (mv_kind (kind_of (hm.one i hi)) fun t h1 h2 => ?_)
    obtain ⟨n, rfl⟩ : ∃ n : Nat, t = n := ⟨t.toNat, by omega⟩
    obtain ⟨u, e, h3, h4, _⟩ := lastT_nat ps n (by omega)
    rw [e]
    omega
theorem share_same {ps : List Sy} (hm : MayL ps) (ld : Int → Int) : ∀ (m k : Nat) (a : Int), ps.length - k ≤ m → k < ps.length → runAt ld (shareL ps) k a = runAt ld ps k a
  | 0, k, a, h, hk => by omega
  | m + 1, k, a, h, hk => by
    have hs := share_may hm
    have hkq : k < (shareL ps).length := by rw [share_len]; exact hk
    have hg := share_get ps k hk
    have hK := kind_of (hm.one k hk)
    by_cases hc : (ps.getD k zeroS).code = 6
    · rw [runAt_ret hs ld k a hkq (by rw [hg, mv_code]; exact hc), runAt_ret hm ld k a hk hc, hg, mv_k]
    · obtain ⟨h1, h2, h3⟩ := nxt_lt hm ld k a hk hc
      rw [runAt_next hs ld k a hkq (by rw [hg, mv_code]; exact hc), runAt_next hm ld k a hk hc, hg]
      have tgo : ∀ (t : Nat) (b : Int), k < t → t < ps.length → runAt ld (shareL ps) (lastT ps t).toNat b = runAt ld ps t b := fun t b h4 h5 => by
        obtain ⟨u, e, h6, h7, h8, h9, h10⟩ := lastT_nat ps t h5
        rw [e, Int.toNat_natCast]
        by_cases hr : (ps.getD t zeroS).code = 6
        · have huq : u < (shareL ps).length := by rw [share_len]; exact h7
          have hgu := share_get ps u h7
          rw [runAt_ret hs ld u b huq (by rw [hgu, mv_code, h8]; exact hr), runAt_ret hm ld t b h5 hr, hgu, mv_k, h9 hr]
        · rw [h10 hr]
          exact share_same hm ld m t b (by omega) h5
      generalize hps : ps.getD k zeroS = s at *
      have hh : holdS (mv (lastT ps) s) a = holdS s a := holdS_code (mv_code _ _) (mv_k _ _) a
      rcases hK with ⟨q, _, _, _⟩ | ⟨q, _, _⟩ | ⟨q, _, _⟩ | ⟨q, _, _, q1⟩ | ⟨q, q1, q2⟩
      · rw [mv_none _ (.inl q), share_same hm ld m _ _ (by omega) h3]
      · rw [mv_none _ (.inr (.inl q)), share_same hm ld m _ _ (by omega) h3]
      · exact absurd q hc
      · obtain ⟨t, ht⟩ : ∃ t : Nat, s.th = t := ⟨s.th.toNat, by omega⟩
        have e := tgo t a (by omega) (by omega)
        rw [mv_ja _ q] at hh ⊢
        have hn : nxt ld s k a = (t, a) := by rw [nxt_ja q, ht, Int.toNat_natCast]
        have hn2 : nxt ld { s with th := lastT ps s.th } k a = ((lastT ps t).toNat, a) := by rw [nxt_ja (s := { s with th := lastT ps s.th }) q, ht]
        rw [hn, hn2, e]
      · have qa := asks_code.2 q
        obtain ⟨t, ht⟩ : ∃ t : Nat, s.th = t := ⟨s.th.toNat, by omega⟩
        obtain ⟨u, hu⟩ : ∃ u : Nat, s.el = u := ⟨s.el.toNat, by omega⟩
        have e := tgo t a (by omega) (by omega)
        have e2 := tgo u a (by omega) (by omega)
        rw [mv_asks _ qa] at hh ⊢
        have hn : nxt ld s k a = if holdS s a then (t, a) else (u, a) := by
          rw [nxt_as (by omega), ht, hu, Int.toNat_natCast, Int.toNat_natCast]
        have hn2 : nxt ld { s with th := lastT ps s.th, el := lastT ps s.el } k a = if holdS s a then ((lastT ps t).toNat, a) else ((lastT ps u).toNat, a) := by
          rw [nxt_as (s := { s with th := lastT ps s.th, el := lastT ps s.el }) (by dsimp only; omega), hh, ht, hu]
        rw [hn, hn2]
        cases holdS s a
        · rw [if_neg (by decide), if_neg (by decide), e2]
        · rw [if_pos rfl, if_pos rfl, e]
theorem lastR_mv (ps : List Sy) (f : Int → Int) (kk : Int) (z : Nat) : ∀ m, m ≤ ps.length → lastR (ps.map (mv f)) kk z m = lastR ps kk z m
  | 0, _ => rfl
  | m + 1, h => by
    unfold lastR
    rw [getD_map_sy _ ps m (by omega), mv_code, mv_k, lastR_mv ps f kk z m (by omega)]
theorem lastT_mv (ps : List Sy) (t : Nat) (h : t < ps.length) : lastT (shareL ps) t = lastT ps t := by
  unfold lastT
  rw [Int.toNat_natCast, share_get ps t h, mv_code, mv_k, share_len]
  unfold shareL
  rw [lastR_mv ps _ _ _ _ (Nat.le_refl _)]
theorem lastT_twice (ps : List Sy) (t : Nat) (h : t < ps.length) : lastT ps (lastT ps t) = lastT ps t := by
  obtain ⟨u, e, h6, h7, h8, h9, h10⟩ := lastT_nat ps t h
  rw [e]
  by_cases hr : (ps.getD t zeroS).code = 6
  · have e1 := e
    unfold lastT at e ⊢
    rw [Int.toNat_natCast, if_pos hr] at e
    rw [Int.toNat_natCast, if_pos (by rw [h8]; exact hr), h9 hr]
    exact e
  · have := h10 hr
    subst this
    exact e
theorem share_twice {ps : List Sy} (hm : MayL ps) : shareL (shareL ps) = shareL ps := by
  refine ext_sy (by rw [share_len]) fun i hi => ?_
  rw [share_len, share_len] at hi
  rw [share_get _ i (by rw [share_len]; exact hi), share_get ps i hi, mv_mv]
  refine mv_congr (kind_of (hm.one i hi)) fun t h1 h2 => ?_
  obtain ⟨n, rfl⟩ : ∃ n : Nat, t = n := ⟨t.toNat, by omega⟩
  obtain ⟨u, e, h3, h4, _⟩ := lastT_nat ps n (by omega)
  have := lastT_twice ps n (by omega)
  rw [e] at this ⊢
  rw [lastT_mv ps u h4]
  exact this
theorem share_sy {ps : List Sy} (hm : MayL ps) (hok : ∀ i ∈ ps, i.ok) : ∀ i ∈ shareL ps, i.ok := fun i hi => by
  have hl := hm.l2
  unfold shareL at hi
  obtain ⟨j, hj, rfl⟩ := List.getElem_of_mem hi
  have hj' : j < ps.length := by simpa using hj
  have e : (List.map (mv (lastT ps)) ps)[j] = mv (lastT ps) ps[j] := by simp
  rw [e]
  have hg : ps.getD j zeroS = ps[j] := by simp [List.getD_eq_getElem?_getD, hj']
  have hK := kind_of (hm.one j hj')
  have ho := hok _ (List.getElem_mem hj')
  rw [hg] at hK
  have hK2 : Kind (mv (lastT ps) ps[j]) (-1) ps.length := mv_kind hK fun t h1 h2 => by
    obtain ⟨n, rfl⟩ : ∃ n : Nat, t = n := ⟨t.toNat, by omega⟩
    obtain ⟨u, e, h3, h4, _⟩ := lastT_nat ps n (by omega)
    rw [e]
    omega
  obtain ⟨o1, o2, o3, o4⟩ := ho
  refine ⟨by rw [mv_code]; exact o1, by rw [mv_k]; exact o2, ?_⟩
  unfold I64
  rcases hK2 with ⟨_, h2, h3, _⟩ | ⟨_, h2, h3⟩ | ⟨_, h2, h3⟩ | ⟨_, _, h3, h2⟩ | ⟨_, h2, h3⟩ <;> omega
end Go.Proofs.Ytjlhfmedaandeaa
