import Derived.Test.YtjlhfmedaandeaaAlive1
/- The run of a row of symbolic instructions: plain law. -/
namespace Go.Proofs.Ytjlhfmedaandeaa
open Go.RowKit
set_option linter.unusedVariables false
set_option linter.unusedSimpArgs false

/-- Does what a jump asks of a number hold? -/
def holdS (s : Sy) (a : Int) : Bool :=
  if s.code = 21 then a == s.k else if s.code = 37 then decide (s.k < a) else if s.code = 53 then decide (s.k ≤ a) else if s.code = 69 then bits .and .u32 a s.k != 0 else true
/-- Where a run goes on, and with what number. -/
def nxt (ld : Int → Int) (s : Sy) (k : Nat) (a : Int) : Nat × Int :=
  if s.code = 32 then (k + 1, ld s.k) else if s.code = 84 then (k + 1, bits .and .u32 a s.k) else if holdS s a then (s.th.toNat, a) else (s.el.toNat, a)
def bump (r : Int × Nat) : Int × Nat := (r.1, r.2 + 1)
def runY (ld : Int → Int) (ps : List Sy) : Nat → Nat → Int → Int × Nat
  | 0, _, _ => (0, 0)
  | f + 1, k, a =>
    if (ps.getD k zeroS).code = 6 then ((ps.getD k zeroS).k, 1)
    else bump (runY ld ps f (nxt ld (ps.getD k zeroS) k a).1 (nxt ld (ps.getD k zeroS) k a).2)
theorem hold_ja {s : Sy} (h : s.code = 5) (a : Int) : holdS s a = true := by
  unfold holdS
  rw [if_neg (by omega), if_neg (by omega), if_neg (by omega), if_neg (by omega)]
theorem nxt_ja {s : Sy} (h : s.code = 5) (ld : Int → Int) (k : Nat) (a : Int) : nxt ld s k a = (s.th.toNat, a) := by
  unfold nxt
  rw [if_neg (by omega), if_neg (by omega), hold_ja h, if_pos rfl]
theorem nxt_as {s : Sy} (h : s.code ≠ 32 ∧ s.code ≠ 84) (ld : Int → Int) (k : Nat) (a : Int) : nxt ld s k a = if holdS s a then (s.th.toNat, a) else (s.el.toNat, a) := by
  unfold nxt
  rw [if_neg h.1, if_neg h.2]
theorem nxt_kind {s : Sy} {n : Int} {k : Nat} (h : Kind s k n) (hc : s.code ≠ 6) (ld : Int → Int) (a : Int) :
    leadS s k (nxt ld s k a).1 = true ∧ k < (nxt ld s k a).1 ∧ ((nxt ld s k a).1 = k + 1 ∧ (s.code = 32 ∨ s.code = 84) ∨ ((nxt ld s k a).1 : Int) < n) := by
  rw [lead_kind h, if_neg hc]
  rcases h with ⟨h1, h2, h3, _⟩ | ⟨h1, h2, h3⟩ | ⟨h1, h2, h3⟩ | ⟨h1, _, h3, h2⟩ | ⟨h1, h2, h3⟩
  · have hn : nxt ld s k a = (k + 1, ld s.k) := by unfold nxt; rw [if_pos h1]
    rw [hn, if_pos (.inl h1)]
    exact ⟨by simp, by simp, .inl ⟨rfl, .inl h1⟩⟩
  · have hn : nxt ld s k a = (k + 1, bits .and .u32 a s.k) := by unfold nxt; rw [if_neg (by omega), if_pos h1]
    rw [hn, if_pos (.inr h1)]
    exact ⟨by simp, by simp, .inl ⟨rfl, .inr h1⟩⟩
  · exact absurd h1 hc
  · rw [nxt_ja h1, if_neg (by omega), if_pos h1]
    refine ⟨?_, ?_, .inr ?_⟩
    · rw [beq_iff_eq]; show s.th = ((s.th.toNat : Nat) : Int); omega
    · show k < s.th.toNat; omega
    · show ((s.th.toNat : Nat) : Int) < n; omega
  · rw [nxt_as (by omega), if_neg (by omega), if_neg (by omega)]
    cases holdS s a
    · rw [if_neg (by decide)]
      refine ⟨?_, ?_, .inr ?_⟩
      · rw [Bool.or_eq_true, beq_iff_eq, beq_iff_eq]; right; show s.el = ((s.el.toNat : Nat) : Int); omega
      · show k < s.el.toNat; omega
      · show ((s.el.toNat : Nat) : Int) < n; omega
    · rw [if_pos rfl]
      refine ⟨?_, ?_, .inr ?_⟩
      · rw [Bool.or_eq_true, beq_iff_eq, beq_iff_eq]; left; show s.th = ((s.th.toNat : Nat) : Int); omega
      · show k < s.th.toNat; omega
      · show ((s.th.toNat : Nat) : Int) < n; omega
theorem nxt_lt {ps : List Sy} (hm : MayL ps) (ld : Int → Int) (k : Nat) (a : Int) (hk : k < ps.length) (hc : (ps.getD k zeroS).code ≠ 6) :
    leadS (ps.getD k zeroS) k (nxt ld (ps.getD k zeroS) k a).1 = true ∧ k < (nxt ld (ps.getD k zeroS) k a).1 ∧ (nxt ld (ps.getD k zeroS) k a).1 < ps.length := by
  obtain ⟨h1, h2, h3⟩ := nxt_kind (kind_of (hm.one k hk)) hc ld a
  refine ⟨h1, h2, ?_⟩
  rcases h3 with ⟨h3, _⟩ | h3
  · rw [h3]
    have hl := hm.last
    by_cases e : k = ps.length - 1
    · rw [← e] at hl
      exact absurd hl hc
    · omega
  · omega
theorem runY_fuel {ps : List Sy} (hm : MayL ps) (ld : Int → Int) : ∀ (f g k : Nat) (a : Int), k < ps.length → ps.length - k ≤ f → ps.length - k ≤ g → runY ld ps f k a = runY ld ps g k a
  | 0, _, k, _, h, h1, _ => by omega
  | _ + 1, 0, k, _, h, _, h2 => by omega
  | f + 1, g + 1, k, a, h, h1, h2 => by
    unfold runY
    by_cases hc : (ps.getD k zeroS).code = 6
    · rw [if_pos hc, if_pos hc]
    · rw [if_neg hc, if_neg hc]
      obtain ⟨_, h3, h4⟩ := nxt_lt hm ld k a h hc
      rw [runY_fuel hm ld f g _ _ h4 (by omega) (by omega)]
/-- The answer, and the steps, of a run from a place on. -/
def runAt (ld : Int → Int) (ps : List Sy) (k : Nat) (a : Int) : Int × Nat := runY ld ps ps.length k a
theorem runAt_ret {ps : List Sy} (hm : MayL ps) (ld : Int → Int) (k : Nat) (a : Int) (hk : k < ps.length) (hc : (ps.getD k zeroS).code = 6) : runAt ld ps k a = ((ps.getD k zeroS).k, 1) := by
  unfold runAt
  rw [runY_fuel hm ld ps.length (ps.length + 1) k a hk (by omega) (by omega)]
  unfold runY
  rw [if_pos hc]
theorem runAt_next {ps : List Sy} (hm : MayL ps) (ld : Int → Int) (k : Nat) (a : Int) (hk : k < ps.length) (hc : (ps.getD k zeroS).code ≠ 6) :
    runAt ld ps k a = bump (runAt ld ps (nxt ld (ps.getD k zeroS) k a).1 (nxt ld (ps.getD k zeroS) k a).2) := by
  obtain ⟨_, h3, h4⟩ := nxt_lt hm ld k a hk hc
  unfold runAt
  rw [runY_fuel hm ld ps.length (ps.length + 1) k a hk (by omega) (by omega)]
  conv => lhs; unfold runY
  rw [if_neg hc]
theorem runAt_steps {ps : List Sy} (hm : MayL ps) (ld : Int → Int) : ∀ (m k : Nat) (a : Int), ps.length - k ≤ m → k < ps.length → 1 ≤ (runAt ld ps k a).2 ∧ (runAt ld ps k a).2 ≤ ps.length - k
  | 0, k, a, h, hk => by omega
  | m + 1, k, a, h, hk => by
    by_cases hc : (ps.getD k zeroS).code = 6
    · rw [runAt_ret hm ld k a hk hc]
      exact ⟨Nat.le_refl _, by show 1 ≤ _; omega⟩
    · obtain ⟨_, h3, h4⟩ := nxt_lt hm ld k a hk hc
      have ih := runAt_steps hm ld m _ (nxt ld (ps.getD k zeroS) k a).2 (by omega) h4
      rw [runAt_next hm ld k a hk hc]
      exact ⟨by show 1 ≤ _ + 1; omega, by show _ + 1 ≤ _; omega⟩
/-- The whole run. -/
def runS (ld : Int → Int) (ps : List Sy) : Int × Nat := runAt ld ps 0 0
theorem asks_code {c : Int} : asksC c = true ↔ (c = 21 ∨ c = 37 ∨ c = 53 ∨ c = 69) := by unfold asksC; simp [or_assoc]
theorem asks_not {c : Int} (h : asksC c = true) : c ≠ 5 ∧ c ≠ 6 ∧ c ≠ 32 ∧ c ≠ 84 := by rw [asks_code] at h; omega
theorem holdS_code {s t : Sy} (h : s.code = t.code) (hk : s.k = t.k) (a : Int) : holdS s a = holdS t a := by unfold holdS; rw [h, hk]
end Go.Proofs.Ytjlhfmedaandeaa
