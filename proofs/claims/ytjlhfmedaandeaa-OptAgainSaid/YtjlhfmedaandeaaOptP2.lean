import Derived.Test.YtjlhfmedaandeaaOptP1
/- Thread as a plain function. -/
namespace Go.Proofs.Ytjlhfmedaandeaa
open Go.RowKit
set_option linter.unusedVariables false
set_option linter.unusedSimpArgs false

/-- A place, or that of the ja that stands there. -/
def thrT (out : List Sy) (t : Int) : Int := if (out.getD t.toNat zeroS).code = 5 then (out.getD t.toNat zeroS).th else t
def thr1 (f : Int → Int) (s : Sy) : Sy :=
  if asksC s.code then (if f s.th = f s.el then ⟨5, 0, f s.th, 0⟩ else { s with th := f s.th, el := f s.el })
  else if s.code = 5 then { s with th := f s.th } else s
def thrStep (ps : List Sy) (out : List Sy) (i : Nat) : List Sy := out.set i (thr1 (thrT out) (ps.getD i zeroS))
def threadUp (ps : List Sy) (pre : List Nat) : List Sy := pre.foldl (thrStep ps) ps
def threadL (ps : List Sy) : List Sy := threadUp ps (List.range ps.length).reverse
theorem threadUp_snoc (ps : List Sy) (pre : List Nat) (i : Nat) : threadUp ps (pre ++ [i]) = thrStep ps (threadUp ps pre) i := by simp [threadUp, List.foldl_append]
theorem thr1_mv (f : Int → Int) (s : Sy) : thr1 f s = if asksC s.code = true ∧ f s.th = f s.el then ⟨5, 0, f s.th, 0⟩ else mv f s := by
  unfold thr1 mv
  by_cases h : asksC s.code = true
  · by_cases e : f s.th = f s.el
    · rw [if_pos h, if_pos e, if_pos ⟨h, e⟩]
    · rw [if_pos h, if_neg e, if_neg (fun x => e x.2), if_pos h]
  · have hn : ¬ (asksC s.code = true ∧ f s.th = f s.el) := fun x => h x.1
    rw [if_neg h, if_neg hn, if_neg h]
theorem thr1_congr {f g : Int → Int} {s : Sy} {a n : Int} (hK : Kind s a n) (h : ∀ t : Int, a < t → t < n → f t = g t) : thr1 f s = thr1 g s := by
  rw [thr1_mv, thr1_mv, mv_congr hK h]
  by_cases ha : asksC s.code = true
  · rcases hK with ⟨h1, _, _, _⟩ | ⟨h1, _, _⟩ | ⟨h1, _, _⟩ | ⟨h1, _, _, h2⟩ | ⟨h1, h2, h3⟩
    · rw [h1] at ha; cases ha
    · rw [h1] at ha; cases ha
    · rw [h1] at ha; cases ha
    · rw [h1] at ha; cases ha
    · rw [h _ h2.1 h2.2, h _ h3.1 h3.2]
  · rw [if_neg (fun x => ha x.1), if_neg (fun x => ha x.1)]
theorem getD_set_sy (l : List Sy) (i j : Nat) (v : Sy) : (l.set i v).getD j zeroS = if i = j ∧ j < l.length then v else l.getD j zeroS := by
  simp only [List.getD_eq_getElem?_getD, List.getElem?_set]
  by_cases h : i = j
  · subst h
    by_cases h2 : i < l.length
    · simp [h2]
    · simp [h2]
  · simp [h]
/-- A row threaded, by what it is. -/
structure Thr (ps out : List Sy) : Prop where
  len : out.length = ps.length
  get : ∀ i, i < ps.length → out.getD i zeroS = thr1 (thrT out) (ps.getD i zeroS)
theorem back_step2 (n j : Nat) (h : j < n) : (List.range n).reverse.take (n - j) = (List.range n).reverse.take (n - (j + 1)) ++ [j] := by
  have e : n - j = n - (j + 1) + 1 := by omega
  rw [e, List.take_succ_eq_append_getElem (by simp; omega)]
  congr 2
  rw [List.getElem_reverse]
  simp
  omega
theorem thread_upto {ps : List Sy} (hm : MayL ps) : ∀ k, k ≤ ps.length → (threadUp ps ((List.range ps.length).reverse.take k)).length = ps.length ∧
    (∀ i, i < ps.length - k → (threadUp ps ((List.range ps.length).reverse.take k)).getD i zeroS = ps.getD i zeroS) ∧
    (∀ i, ps.length - k ≤ i → i < ps.length → (threadUp ps ((List.range ps.length).reverse.take k)).getD i zeroS = thr1 (thrT (threadUp ps ((List.range ps.length).reverse.take k))) (ps.getD i zeroS))
  | 0, _ => ⟨by simp [threadUp], fun i h => by simp [threadUp], fun i h h2 => by omega⟩
  | k + 1, hk => by
    obtain ⟨h1, h2, h3⟩ := thread_upto hm k (by omega)
    have hs := back_step2 ps.length (ps.length - (k + 1)) (by omega)
    rw [show ps.length - (ps.length - (k + 1)) = k + 1 by omega, show ps.length - (ps.length - (k + 1) + 1) = k by omega] at hs
    rw [hs, threadUp_snoc]
    generalize threadUp ps ((List.range ps.length).reverse.take k) = out at *
    generalize hj : ps.length - (k + 1) = j at *
    unfold thrStep
    generalize hv : thr1 (thrT out) (ps.getD j zeroS) = v
    have hT : ∀ t : Int, (j : Int) < t → thrT (out.set j v) t = thrT out t := fun t ht => by
      have e : (out.set j v).getD t.toNat zeroS = out.getD t.toNat zeroS := by rw [getD_set_sy, if_neg (by omega)]
      unfold thrT
      rw [e]
    refine ⟨by rw [List.length_set, h1], fun i hi => ?_, fun i hi hi2 => ?_⟩
    · rw [getD_set_sy, if_neg (by omega)]
      exact h2 i (by omega)
    · have e2 : thr1 (thrT (out.set j v)) (ps.getD i zeroS) = thr1 (thrT out) (ps.getD i zeroS) := thr1_congr (kind_of (hm.one i hi2)) fun t a b => hT t (by omega)
      rw [e2, getD_set_sy]
      by_cases e : j = i
      · subst e
        rw [if_pos ⟨rfl, by omega⟩, hv]
      · rw [if_neg (fun x => e x.1)]
        exact h3 i (by omega) hi2
theorem thread_thr {ps : List Sy} (hm : MayL ps) : Thr ps (threadL ps) := by
  obtain ⟨h1, h2, h3⟩ := thread_upto hm ps.length (Nat.le_refl _)
  rw [List.take_of_length_le (by simp)] at h1 h2 h3
  exact ⟨h1, fun i hi => h3 i (by omega) hi⟩
/-- An instruction of a row threaded. -/
structure Tg (out : List Sy) (n i : Nat) : Prop where
  kind : Kind (out.getD i zeroS) i n
  ja : ∀ t : Nat, jumpS (out.getD i zeroS) = true → (out.getD i zeroS).th = t → (out.getD t zeroS).code ≠ 5
  as : ∀ t : Nat, asksC (out.getD i zeroS).code = true → (out.getD i zeroS).el = t → (out.getD t zeroS).code ≠ 5
  ne : asksC (out.getD i zeroS).code = true → (out.getD i zeroS).th ≠ (out.getD i zeroS).el
theorem thrT_of {out : List Sy} {n t : Nat} (h : Tg out n t) (ht : t < n) : ∃ u : Nat, thrT out t = u ∧ t ≤ u ∧ u < n ∧ (out.getD u zeroS).code ≠ 5 ∧ (u = t ∨ ((out.getD t zeroS).code = 5 ∧ (out.getD t zeroS).th = u)) := by
  unfold thrT
  rw [Int.toNat_natCast]
  by_cases e : (out.getD t zeroS).code = 5
  · rw [if_pos e]
    obtain ⟨u, hu⟩ : ∃ u : Nat, (out.getD t zeroS).th = u ∧ t < u ∧ u < n := by
      rcases h.kind with ⟨h1, _, _, _⟩ | ⟨h1, _, _⟩ | ⟨h1, _, _⟩ | ⟨h1, _, _, h2⟩ | ⟨h1, h2, h3⟩
      · omega
      · omega
      · omega
      · exact ⟨(out.getD t zeroS).th.toNat, by omega, by omega, by omega⟩
      · omega
    exact ⟨u, hu.1, by omega, hu.2.2, h.ja u (by unfold jumpS; rw [e]; rfl) hu.1, .inr ⟨e, hu.1⟩⟩
  · rw [if_neg e]
    exact ⟨t, rfl, Nat.le_refl _, ht, e, .inl rfl⟩
theorem thr_at {ps out : List Sy} (hm : MayL ps) (hT : Thr ps out) : ∀ m i, ps.length - i ≤ m → i < ps.length → Tg out ps.length i
  | 0, i, h, hi => by omega
  | m + 1, i, h, hi => by
    have hK := kind_of (hm.one i hi)
    have hg := hT.get i hi
    have tgo : ∀ t : Int, (i : Int) < t → t < ps.length → ∃ u : Nat, thrT out t = u ∧ i < u ∧ u < ps.length ∧ (out.getD u zeroS).code ≠ 5 := fun t h1 h2 => by
      obtain ⟨n, rfl⟩ : ∃ n : Nat, t = n := ⟨t.toNat, by omega⟩
      obtain ⟨u, a, b, c, d, _⟩ := thrT_of (thr_at hm hT m n (by omega) (by omega)) (by omega)
      exact ⟨u, a, by omega, c, d⟩
    generalize ps.getD i zeroS = s at *
    have plain : s.code = 32 ∨ s.code = 84 ∨ s.code = 6 → Tg out ps.length i := fun hc => by
      have ha : asksC s.code ≠ true := fun e => by rw [asks_code] at e; omega
      have e : out.getD i zeroS = s := by
        rw [hg]
        unfold thr1
        rw [if_neg ha, if_neg (by omega)]
      refine ⟨by rw [e]; exact hK, fun t hj => ?_, fun t hj => ?_, fun hj => ?_⟩
      · rw [e] at hj; unfold jumpS at hj; simp at hj; rcases hj with hj | hj
        · omega
        · exact absurd hj ha
      · rw [e] at hj; exact absurd hj ha
      · rw [e] at hj; exact absurd hj ha
    rcases hK with ⟨q, _, _, _⟩ | ⟨q, _, _⟩ | ⟨q, _, _⟩ | ⟨q, q0, q3, q1⟩ | ⟨q, q1, q2⟩
    · exact plain (by omega)
    · exact plain (by omega)
    · exact plain (by omega)
    · obtain ⟨u, hu, u1, u2, u3⟩ := tgo s.th q1.1 q1.2
      have ha : asksC s.code ≠ true := fun e => by rw [asks_code] at e; omega
      have e : out.getD i zeroS = { s with th := (u : Int) } := by
        rw [hg]
        unfold thr1
        rw [if_neg ha, if_pos q, hu]
      refine ⟨by rw [e]; exact .ja q q0 q3 ⟨by show (i : Int) < (u : Int); omega, by show (u : Int) < _; omega⟩, fun t hj ht => ?_, fun t hj => ?_, fun hj => ?_⟩
      · rw [e] at ht
        have : u = t := Int.ofNat.inj ht
        subst this
        exact u3
      · rw [e] at hj; exact absurd hj ha
      · rw [e] at hj; exact absurd hj ha
    · have qa := asks_code.2 q
      obtain ⟨u, hu, u1, u2, u3⟩ := tgo s.th q1.1 q1.2
      obtain ⟨v, hv, v1, v2, v3⟩ := tgo s.el q2.1 q2.2
      by_cases huv : u = v
      · have e : out.getD i zeroS = ⟨5, 0, (u : Int), 0⟩ := by
          rw [hg]
          unfold thr1
          rw [if_pos qa, hu, hv, huv, if_pos rfl]
        refine ⟨by rw [e]; exact .ja rfl rfl rfl ⟨by show (i : Int) < (u : Int); omega, by show (u : Int) < _; omega⟩, fun t hj ht => ?_, fun t hj => ?_, fun hj => ?_⟩
        · rw [e] at ht
          have : u = t := Int.ofNat.inj ht
          subst this
          exact u3
        · rw [e] at hj; exact absurd (show asksC 5 = true from hj) (by decide)
        · rw [e] at hj; exact absurd (show asksC 5 = true from hj) (by decide)
      · have e : out.getD i zeroS = { s with th := (u : Int), el := (v : Int) } := by
          rw [hg]
          unfold thr1
          rw [if_pos qa, hu, hv, if_neg (by omega)]
        refine ⟨by rw [e]; exact .as q ⟨by show (i : Int) < (u : Int); omega, by show (u : Int) < _; omega⟩ ⟨by show (i : Int) < (v : Int); omega, by show (v : Int) < _; omega⟩, fun t hj ht => ?_, fun t hj ht => ?_, fun hj ht => ?_⟩
        · rw [e] at ht
          have : u = t := Int.ofNat.inj ht
          subst this
          exact u3
        · rw [e] at ht
          have : v = t := Int.ofNat.inj ht
          subst this
          exact v3
        · rw [e] at ht
          exact huv (Int.ofNat.inj ht)
theorem thr_tg {ps out : List Sy} (hm : MayL ps) (hT : Thr ps out) (i : Nat) (hi : i < ps.length) : Tg out ps.length i := thr_at hm hT _ i (Nat.le_refl _) hi
theorem thr1_ret {f : Int → Int} {s : Sy} (h : s.code = 6 ∨ s.code = 32 ∨ s.code = 84) : thr1 f s = s := by
  unfold thr1
  have ha : asksC s.code ≠ true := fun e => by rw [asks_code] at e; omega
  rw [if_neg ha, if_neg (by omega)]
theorem thr_may {ps out : List Sy} (hm : MayL ps) (hT : Thr ps out) : MayL out := by
  refine ⟨by rw [hT.len]; exact hm.l1, by rw [hT.len]; exact hm.l2, ?_, fun i hi => ?_⟩
  · have := hm.l1
    have hl := hm.last
    rw [hT.len, hT.get _ (by omega), thr1_ret (.inl hl)]
    exact hl
  · rw [hT.len] at hi ⊢
    exact mayS_of (thr_tg hm hT i hi).kind
theorem thr_ok {ps out : List Sy} (hm : MayL ps) (hT : Thr ps out) (hok : ∀ i ∈ ps, i.ok) : ∀ i ∈ out, i.ok := fun i hi => by
  have hl := hm.l2
  obtain ⟨j, hj, rfl⟩ := List.getElem_of_mem hi
  have hj' : j < ps.length := by rw [← hT.len]; exact hj
  have hg := hT.get j hj'
  have hgo : out.getD j zeroS = out[j] := by simp [List.getD_eq_getElem?_getD, hj]
  have hgp : ps.getD j zeroS = ps[j] := by simp [List.getD_eq_getElem?_getD, hj']
  have hK := (thr_tg hm hT j hj').kind
  rw [hgo] at hK hg
  have ho := hok _ (List.getElem_mem hj')
  rw [← hgp] at ho
  obtain ⟨⟨o1, o2⟩, ⟨o3, o4⟩, _, _⟩ := ho
  have hck : (0 ≤ out[j].code ∧ out[j].code < 65536) ∧ (0 ≤ out[j].k ∧ out[j].k < 4294967296) := by
    rw [hg]
    unfold thr1
    (repeat' split) <;> exact ⟨by first | exact ⟨o1, o2⟩ | exact (⟨by decide, by decide⟩ : (0 : Int) ≤ 5 ∧ (5 : Int) < 65536), by first | exact ⟨o3, o4⟩ | exact (⟨by decide, by decide⟩ : (0 : Int) ≤ 0 ∧ (0 : Int) < 4294967296)⟩
  refine ⟨hck.1, hck.2, ?_⟩
  unfold I64
  rcases hK with ⟨_, h2, h3, _⟩ | ⟨_, h2, h3⟩ | ⟨_, h2, h3⟩ | ⟨_, _, h3, h2⟩ | ⟨_, h2, h3⟩ <;> omega
theorem thr_same {ps out : List Sy} (hm : MayL ps) (hT : Thr ps out) (ld : Int → Int) : ∀ (m k : Nat) (a : Int), ps.length - k ≤ m → k < ps.length →
    (runAt ld out k a).1 = (runAt ld ps k a).1 ∧ (runAt ld out k a).2 ≤ (runAt ld ps k a).2
  | 0, k, a, h, hk => by omega
  | m + 1, k, a, h, hk => by
    have hs := thr_may hm hT
    have hkq : k < out.length := by rw [hT.len]; exact hk
    have hg := hT.get k hk
    have hK := kind_of (hm.one k hk)
    by_cases hc : (ps.getD k zeroS).code = 6
    · rw [thr1_ret (.inl hc)] at hg
      rw [runAt_ret hs ld k a hkq (by rw [hg]; exact hc), runAt_ret hm ld k a hk hc, hg]
      exact ⟨rfl, Nat.le_refl _⟩
    · obtain ⟨h1, h2, h3⟩ := nxt_lt hm ld k a hk hc
      have tgo : ∀ (t : Int) (b : Int), (k : Int) < t → t < ps.length → ∃ u : Nat, thrT out t = u ∧ u < ps.length ∧ (runAt ld out u b).1 = (runAt ld ps t.toNat b).1 ∧ (runAt ld out u b).2 ≤ (runAt ld ps t.toNat b).2 := fun t b h4 h5 => by
        obtain ⟨t, rfl⟩ : ∃ n : Nat, t = n := ⟨t.toNat, by omega⟩
        obtain ⟨u, e, u1, u2, u3, u4⟩ := thrT_of (thr_tg hm hT t (by omega)) (by omega)
        obtain ⟨i1, i2⟩ := thr_same hm hT ld m t b (by omega) (by omega)
        rw [Int.toNat_natCast]
        refine ⟨u, e, u2, ?_⟩
        rcases u4 with rfl | ⟨u4, u5⟩
        · exact ⟨i1, i2⟩
        · have hn : nxt ld (out.getD t zeroS) t b = (u, b) := by
            rw [nxt_ja u4, u5, Int.toNat_natCast]
          rw [runAt_next hs ld t b (by rw [hT.len]; omega) (by rw [u4]; decide), hn] at i1 i2
          dsimp only at i1 i2
          exact ⟨i1, by have : (bump (runAt ld out u b)).2 = (runAt ld out u b).2 + 1 := rfl; omega⟩
      rw [runAt_next hm ld k a hk hc]
      generalize hps : ps.getD k zeroS = s at *
      have plain : s.code = 32 ∨ s.code = 84 → (runAt ld out k a).1 = (bump (runAt ld ps (nxt ld s k a).1 (nxt ld s k a).2)).1 ∧ (runAt ld out k a).2 ≤ (bump (runAt ld ps (nxt ld s k a).1 (nxt ld s k a).2)).2 := fun q => by
        rw [thr1_ret (by omega)] at hg
        rw [runAt_next hs ld k a hkq (by rw [hg]; exact hc), hg]
        obtain ⟨i1, i2⟩ := thr_same hm hT ld m _ (nxt ld s k a).2 (by omega) h3
        exact ⟨i1, Nat.succ_le_succ i2⟩
      rcases hK with ⟨q, _, _, _⟩ | ⟨q, _, _⟩ | ⟨q, _, _⟩ | ⟨q, q0, q3, q1⟩ | ⟨q, q1, q2⟩
      · exact plain (.inl q)
      · exact plain (.inr q)
      · exact absurd q hc
      · obtain ⟨u, hu, u1, u2, u3⟩ := tgo s.th a q1.1 q1.2
        have ha : asksC s.code ≠ true := fun e => by rw [asks_code] at e; omega
        have e : out.getD k zeroS = { s with th := (u : Int) } := by
          rw [hg]
          unfold thr1
          rw [if_neg ha, if_pos q, hu]
        have hn : nxt ld s k a = (s.th.toNat, a) := nxt_ja q ld k a
        have hn2 : nxt ld { s with th := (u : Int) } k a = (u, a) := by rw [nxt_ja (s := { s with th := (u : Int) }) q, Int.toNat_natCast]
        rw [runAt_next hs ld k a hkq (by rw [e]; exact hc), e, hn, hn2]
        exact ⟨u2, Nat.succ_le_succ u3⟩
      · have qa := asks_code.2 q
        obtain ⟨u, hu, u1, u2, u3⟩ := tgo s.th a q1.1 q1.2
        obtain ⟨v, hv, v1, v2, v3⟩ := tgo s.el a q2.1 q2.2
        have hn : nxt ld s k a = if holdS s a then (s.th.toNat, a) else (s.el.toNat, a) := nxt_as (by omega) ld k a
        rw [hn]
        by_cases huv : u = v
        · have e : out.getD k zeroS = ⟨5, 0, (u : Int), 0⟩ := by
            rw [hg]
            unfold thr1
            rw [if_pos qa, hu, hv, huv, if_pos rfl]
          have hn2 : nxt ld ⟨5, 0, (u : Int), 0⟩ k a = (u, a) := rfl
          rw [runAt_next hs ld k a hkq (by rw [e]; show (5 : Int) ≠ 6; decide), e, hn2]
          subst huv
          cases holdS s a
          · rw [if_neg (by decide)]
            exact ⟨v2, Nat.succ_le_succ v3⟩
          · rw [if_pos rfl]
            exact ⟨u2, Nat.succ_le_succ u3⟩
        · have e : out.getD k zeroS = { s with th := (u : Int), el := (v : Int) } := by
            rw [hg]
            unfold thr1
            rw [if_pos qa, hu, hv, if_neg (by omega)]
          have hh : holdS { s with th := (u : Int), el := (v : Int) } a = holdS s a := holdS_code rfl rfl a
          have hn2 : nxt ld { s with th := (u : Int), el := (v : Int) } k a = if holdS s a then (u, a) else (v, a) := by
            rw [nxt_as (s := { s with th := (u : Int), el := (v : Int) }) (by dsimp only; omega), hh, Int.toNat_natCast, Int.toNat_natCast]
          rw [runAt_next hs ld k a hkq (by rw [e]; exact hc), e, hn2]
          cases holdS s a
          · rw [if_neg (by decide), if_neg (by decide)]
            exact ⟨v2, Nat.succ_le_succ v3⟩
          · rw [if_pos rfl, if_pos rfl]
            exact ⟨u2, Nat.succ_le_succ u3⟩
theorem thr_uniq {ps p q : List Sy} (hm : MayL ps) (hp : Thr ps p) (hq : Thr ps q) : p = q := by
  have key : ∀ m i, ps.length - i ≤ m → i < ps.length → p.getD i zeroS = q.getD i zeroS := by
    intro m
    induction m with
    | zero => intro i h hi; omega
    | succ m ih =>
      intro i h hi
      rw [hp.get i hi, hq.get i hi]
      refine thr1_congr (kind_of (hm.one i hi)) fun t h1 h2 => ?_
      unfold thrT
      rw [ih t.toNat (by omega) (by omega)]
  exact ext_sy (by rw [hp.len, hq.len]) fun i hi => key _ i (Nat.le_refl _) (by rw [← hp.len]; exact hi)
theorem thr_self {ps out : List Sy} (hm : MayL ps) (hT : Thr ps out) : Thr out out := by
  refine ⟨rfl, fun i hi => ?_⟩
  rw [hT.len] at hi
  have g := thr_tg hm hT i hi
  have hid : ∀ t : Int, (jumpS (out.getD i zeroS) = true ∧ (out.getD i zeroS).th = t) ∨ (asksC (out.getD i zeroS).code = true ∧ (out.getD i zeroS).el = t) → 0 ≤ t → thrT out t = t := fun t h h0 => by
    obtain ⟨n, rfl⟩ : ∃ n : Nat, t = n := ⟨t.toNat, by omega⟩
    unfold thrT
    rw [Int.toNat_natCast]
    rcases h with ⟨a, b⟩ | ⟨a, b⟩
    · rw [if_neg (g.ja n a b)]
    · rw [if_neg (g.as n a b)]
  have hne := g.ne
  have hk := g.kind
  generalize out.getD i zeroS = s at *
  unfold thr1
  rcases hk with ⟨q, _, _, _⟩ | ⟨q, _, _⟩ | ⟨q, _, _⟩ | ⟨q, q0, q3, q1⟩ | ⟨q, q1, q2⟩
  · rw [if_neg (by rw [q]; decide), if_neg (by omega)]
  · rw [if_neg (by rw [q]; decide), if_neg (by omega)]
  · rw [if_neg (by rw [q]; decide), if_neg (by omega)]
  · rw [if_neg (by rw [q]; decide), if_pos q, hid s.th (.inl ⟨by unfold jumpS; rw [q]; rfl, rfl⟩) (by omega)]
  · have qa := asks_code.2 q
    rw [if_pos qa, hid s.th (.inl ⟨by unfold jumpS; rw [qa]; simp, rfl⟩) (by omega), hid s.el (.inr ⟨qa, rfl⟩) (by omega), if_neg (hne qa)]
theorem thread_twice {ps : List Sy} (hm : MayL ps) : threadL (threadL ps) = threadL ps :=
  thr_uniq (thr_may hm (thread_thr hm)) (thread_thr (thr_may hm (thread_thr hm))) (thr_self hm (thread_thr hm))
theorem thread_len {ps : List Sy} (hm : MayL ps) : (threadL ps).length = ps.length := (thread_thr hm).len
theorem thread_may {ps : List Sy} (hm : MayL ps) : MayL (threadL ps) := thr_may hm (thread_thr hm)
end Go.Proofs.Ytjlhfmedaandeaa
