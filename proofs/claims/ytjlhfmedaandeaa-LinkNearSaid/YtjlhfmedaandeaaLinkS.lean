import Derived.Test.YtjlhfmedaandeaaLkD
import Derived.Test.YtjlhfmedaandeaaLkC
import Derived.Test.YtjlhfmedaandeaaRunP
import Derived.Test.YtjlhfmedaandeaaHalt1
/- The linked program tells what the row tells: plain law. -/
namespace Go.Proofs.Ytjlhfmedaandeaa
open Go.RowKit
set_option linter.unusedVariables false
set_option linter.unusedSimpArgs false

theorem cls_6 : clsOf 6 = 5 := by decide +kernel
theorem cls_32 : clsOf 32 = 1 := by decide +kernel
theorem cls_84 : clsOf 84 = 3 := by decide +kernel
theorem cls_5 : clsOf 5 = 4 := by decide +kernel
theorem cls_as {c : Int} (h : c = 21 ∨ c = 37 ∨ c = 53 ∨ c = 69) : clsOf c = 4 := by
  rcases h with rfl | rfl | rfl | rfl <;> decide +kernel
theorem nox_row {c : Int} (h : c = 21 ∨ c = 37 ∨ c = 53 ∨ c = 69 ∨ c = 84) : takesX c = false := by
  rcases h with rfl | rfl | rfl | rfl | rfl <;> decide +kernel
theorem known_row {c : Int} (h : c = 32 ∨ c = 84 ∨ c = 6 ∨ c = 5 ∨ c = 21 ∨ c = 37 ∨ c = 53 ∨ c = 69) : (byE c).2 = true := by
  rcases h with rfl | rfl | rfl | rfl | rfl | rfl | rfl | rfl <;> decide +kernel
theorem step_ret (d : Dat) (jt jf k : Int) (s : Vm) : stepE d ⟨6, jt, jf, k⟩ s = ({ s with told := k, over := true }, 0, 0) := by
  unfold stepE
  dsimp only
  rw [cls_6]
  rfl
theorem step_ld (d : Dat) (jt jf k : Int) (s : Vm) (h : wordErr k = 0) : stepE d ⟨32, jt, jf, k⟩ s = ({ s with a := d.word k }, 0, 0) := by
  unfold stepE
  dsimp only
  rw [cls_32]
  have e : loadE d ⟨32, jt, jf, k⟩ s = ({ s with a := d.word k }, 0) := by
    unfold loadE
    dsimp only
    rw [if_pos rfl, if_pos h]
  rw [e]
  rfl
theorem step_and (d : Dat) (jt jf k : Int) (s : Vm) : stepE d ⟨84, jt, jf, k⟩ s = ({ s with a := bits .and .u32 s.a k }, 0, 0) := by
  have hx : secondE ⟨84, jt, jf, k⟩ s = k := by
    unfold secondE
    rw [if_neg (by show ¬ takesX 84 = true; rw [nox_row (by omega)]; decide)]
  have hb : byI 84 = 5 := by decide +kernel
  have e : numberE ⟨84, jt, jf, k⟩ s = ({ s with a := bits .and .u32 s.a k }, 0) := by
    unfold numberE
    rw [hx]
    dsimp only
    rw [if_neg (by omega), if_neg (by omega), if_neg (by omega), hb]
    rfl
  unfold stepE
  rw [e]
  dsimp only
  rw [cls_84]
  rfl
theorem step_ja (d : Dat) (jt jf k : Int) (s : Vm) : stepE d ⟨5, jt, jf, k⟩ s = (s, k, 0) := by
  unfold stepE jumpE
  dsimp only
  rw [cls_5]
  rfl
theorem ho_hold {c : Int} (h : c = 21 ∨ c = 37 ∨ c = 53 ∨ c = 69) (a k th el : Int) : hoE (byI c - 10) a k = holdS ⟨c, k, th, el⟩ a := by
  unfold holdS
  dsimp only
  rcases h with rfl | rfl | rfl | rfl
  · rw [show byI 21 = 10 by decide +kernel, if_pos rfl]; rfl
  · rw [show byI 37 = 11 by decide +kernel, if_neg (by omega), if_pos rfl]; rfl
  · rw [show byI 53 = 12 by decide +kernel, if_neg (by omega), if_neg (by omega), if_pos rfl]; rfl
  · rw [show byI 69 = 13 by decide +kernel, if_neg (by omega), if_neg (by omega), if_neg (by omega), if_pos rfl]; rfl
theorem step_as (d : Dat) {c : Int} (h : c = 21 ∨ c = 37 ∨ c = 53 ∨ c = 69) (jt jf k : Int) (th el : Int) (s : Vm) : stepE d ⟨c, jt, jf, k⟩ s = (s, (if holdS ⟨c, k, th, el⟩ s.a then jt else jf), 0) := by
  have hx : secondE ⟨c, jt, jf, k⟩ s = k := by
    unfold secondE
    rw [if_neg (by show ¬ takesX c = true; rw [nox_row (by omega)]; decide)]
  unfold stepE jumpE
  rw [hx]
  dsimp only
  rw [cls_as h, ho_hold h s.a k th el, if_neg (show ¬ c = 5 by omega)]
  rfl
theorem run1 {d : Dat} {P : List Ins} {f at_ : Nat} {s s' : Vm} {beh : Int} {tr : List Nat} {i : Ins} {x : Int} (ho : s.over = false) (hk : at_ < P.length) (hi : P.getD at_ zeroI = i) (he : stepE d i s = (s', x, 0)) :
    ∃ b, runE d P (f + 1) at_ s beh tr = runE d P f (at_ + (1 + x.toNat)) s' b (tr ++ [at_]) := by
  have e : P[at_] = i := by rw [← hi, List.getD_eq_getElem?_getD, List.getElem?_eq_getElem hk]; rfl
  have h := run_step (f := f) (beh := beh) (tr := tr) ho hk (by rw [e, he])
  rw [e, he] at h
  exact ⟨_, h⟩

/-- Where an instruction's program begins. -/
def posN (ps : List Sy) (sz : List Int) (k : Nat) : Nat := (fromR ps sz 0 k).length
theorem fromR_cat (ps : List Sy) (sz : List Int) (lo a : Nat) : ∀ b, fromR ps sz lo (a + b) = fromR ps sz lo a ++ fromR ps sz (lo + a) b
  | 0 => by simp [fromR]
  | b + 1 => by rw [← Nat.add_assoc, fromR_snoc, fromR_cat ps sz lo a b, fromR_snoc, List.append_assoc, Nat.add_assoc lo a b]
theorem pos_succ (ps : List Sy) (sz : List Int) (k : Nat) : posN ps sz (k + 1) = posN ps sz k + (insR ps sz k).length := by
  unfold posN
  rw [fromR_snoc, List.length_append, Nat.zero_add]
theorem insR_pos (ps : List Sy) (sz : List Int) (i : Nat) : 1 ≤ (insR ps sz i).length := by
  unfold insR
  (repeat' split) <;> simp
theorem pos_up (ps : List Sy) (sz : List Int) (k : Nat) : ∀ d, posN ps sz k + d ≤ posN ps sz (k + d)
  | 0 => Nat.le_refl _
  | d + 1 => by
    have h1 := pos_up ps sz k d
    have h2 := insR_pos ps sz (k + d)
    rw [← Nat.add_assoc k d 1, pos_succ]
    omega
theorem pos_up' (ps : List Sy) (sz : List Int) {k t : Nat} (h : k ≤ t) : posN ps sz k + (t - k) ≤ posN ps sz t := by
  have := pos_up ps sz k (t - k)
  rwa [show k + (t - k) = t by omega] at this
/-- The sizes are those of the instructions. -/
structure Szd (ps : List Sy) (sz : List Int) : Prop where
  len : ∀ i, i < ps.length → ((insR ps sz i).length : Int) = sz.getD i 0
  one : ∀ i, i < ps.length → sz.getD i 0 = 1 ∨ sz.getD i 0 = 3
  near : ∀ i, i < ps.length → sz.getD i 0 = 1 → asksC (ps.getD i zeroS).code = true → dsum sz (i + 1) ((ps.getD i zeroS).th.toNat - (i + 1)) ≤ 255 ∧ dsum sz (i + 1) ((ps.getD i zeroS).el.toNat - (i + 1)) ≤ 255
theorem szd_of {ps : List Sy} (hm : MayL ps) : Szd ps (szUp ps (List.range ps.length).reverse) := by
  have ha := szUp_all ps
  generalize szUp ps (List.range ps.length).reverse = sz at *
  have key : ∀ i, i < ps.length → (sz.getD i 0 = 1 ∨ sz.getD i 0 = 3) ∧ (sz.getD i 0 = 1 → asksC (ps.getD i zeroS).code = true → dsum sz (i + 1) ((ps.getD i zeroS).th.toNat - (i + 1)) ≤ 255 ∧ dsum sz (i + 1) ((ps.getD i zeroS).el.toNat - (i + 1)) ≤ 255) ∧ (asksC (ps.getD i zeroS).code = false → sz.getD i 0 = 1) := fun i hi => by
    rw [ha i hi]
    unfold szOf
    cases asksC (ps.getD i zeroS).code
    · exact ⟨.inl rfl, fun _ h => (by cases h), fun _ => rfl⟩
    · by_cases e : (decide (255 < dsum sz (i + 1) ((ps.getD i zeroS).th.toNat - (i + 1))) || decide (255 < dsum sz (i + 1) ((ps.getD i zeroS).el.toNat - (i + 1)))) = true
      · rw [e]
        exact ⟨.inr rfl, fun h => absurd h (by decide), fun h => by cases h⟩
      · rw [Bool.not_eq_true] at e
        rw [e]
        simp only [Bool.or_eq_false_iff, decide_eq_false_iff_not] at e
        exact ⟨.inl rfl, fun _ _ => by omega, fun h => by cases h⟩
  refine ⟨fun i hi => ?_, fun i hi => (key i hi).1, fun i hi => (key i hi).2.1⟩
  obtain ⟨k1, k2, k3⟩ := key i hi
  unfold insR
  by_cases h5 : (ps.getD i zeroS).code = 5
  · rw [if_pos h5, k3 (by rw [h5]; rfl)]; rfl
  · rw [if_neg h5]
    by_cases hA : asksC (ps.getD i zeroS).code = false
    · rw [if_pos hA, k3 hA]; rfl
    · rw [if_neg hA]
      rcases k1 with k1 | k1
      · rw [if_pos k1, k1]; rfl
      · rw [if_neg (by omega), k1]; rfl
theorem dsum_pos {ps : List Sy} {sz : List Int} (h : Szd ps sz) (lo : Nat) : ∀ k, lo + k ≤ ps.length → dsum sz lo k = (posN ps sz (lo + k) : Int) - posN ps sz lo
  | 0, _ => by simp [dsum]
  | k + 1, hk => by
    have h1 := h.len (lo + k) (by omega)
    have h2 := pos_succ ps sz (lo + k)
    show dsum sz lo k + sz.getD (lo + k) 0 = _
    rw [dsum_pos h lo k (by omega), ← h1, ← Nat.add_assoc, h2]
    omega
theorem dsum_to {ps : List Sy} {sz : List Int} (h : Szd ps sz) {k t : Nat} (h1 : k < t) (h2 : t < ps.length) : dsum sz (k + 1) (t - (k + 1)) = (posN ps sz t : Int) - posN ps sz (k + 1) := by
  rw [dsum_pos h (k + 1) (t - (k + 1)) (by omega), show k + 1 + (t - (k + 1)) = t by omega]
theorem prog_len (ps : List Sy) (sz : List Int) : (fromR ps sz 0 ps.length).length = posN ps sz ps.length := rfl
theorem prog_get (ps : List Sy) (sz : List Int) (k r : Nat) (hk : k < ps.length) (hr : r < (insR ps sz k).length) : (fromR ps sz 0 ps.length).getD (posN ps sz k + r) zeroI = (insR ps sz k).getD r zeroI := by
  have e : fromR ps sz 0 ps.length = fromR ps sz 0 k ++ (insR ps sz k ++ fromR ps sz (k + 1) (ps.length - (k + 1))) := by
    have h1 := fromR_cat ps sz 0 k (ps.length - k)
    rw [show k + (ps.length - k) = ps.length by omega, Nat.zero_add] at h1
    rw [h1, show ps.length - k = ps.length - (k + 1) + 1 by omega]
    rfl
  rw [e]
  unfold posN
  rw [List.getD_eq_getElem?_getD, List.getD_eq_getElem?_getD, List.getElem?_append_right (by omega), Nat.add_sub_cancel_left, List.getElem?_append_left hr]
theorem ins_len3 (ps : List Sy) (sz : List Int) (k : Nat) : (insR ps sz k).length = 1 ∨ (insR ps sz k).length = 3 := by
  unfold insR
  (repeat' split) <;> simp
theorem word_may {k : Int} (h0 : 0 ≤ k) (h : k % 4 = 0 ∧ k < 64) : wordErr k = 0 := by
  unfold wordErr wordOk
  rw [if_pos (by simpa using h)]
set_option maxHeartbeats 1000000 in
theorem link_sim {ps : List Sy} (hm : MayL ps) {sz : List Int} (hz : Szd ps sz) (d : Dat) (P : List Ins) (hP : P = fromR ps sz 0 ps.length) (hk0 : ∀ i, i < ps.length → 0 ≤ (ps.getD i zeroS).k) :
    ∀ (m k f : Nat) (s : Vm) (beh : Int) (tr : List Nat), ps.length - k ≤ m → k < ps.length → s.over = false → P.length + 2 ≤ f + posN ps sz k →
      (runE d P f (posN ps sz k) s beh tr).err = 0 ∧ (runE d P f (posN ps sz k) s beh tr).ans = (runAt d.word ps k s.a).1 ∧
      tr.length + (runAt d.word ps k s.a).2 ≤ (runE d P f (posN ps sz k) s beh tr).steps ∧
      2 * (runE d P f (posN ps sz k) s beh tr).steps + (ps.length - k) + posN ps sz k ≤ 2 * (tr.length + (runAt d.word ps k s.a).2) + P.length
  | 0, k, f, s, beh, tr, h, hk, _, _ => by omega
  | m + 1, k, f, s, beh, tr, h, hk, ho, hf => by
    have hN : P.length = posN ps sz ps.length := by rw [hP]; rfl
    have hpu := pos_up' ps sz (show k ≤ ps.length by omega)
    have hsu := pos_up' ps sz (show k + 1 ≤ ps.length by omega)
    have hps := pos_succ ps sz k
    have hi1 := insR_pos ps sz k
    have hget : ∀ r, r < (insR ps sz k).length → P.getD (posN ps sz k + r) zeroI = (insR ps sz k).getD r zeroI := fun r hr => by rw [hP]; exact prog_get ps sz k r hk hr
    have hK := kind_of (hm.one k hk)
    have hkk := hk0 k hk
    obtain ⟨f, rfl⟩ : ∃ g, f = g + 1 := ⟨f - 1, by omega⟩
    by_cases hc : (ps.getD k zeroS).code = 6
    · have hins : insR ps sz k = [⟨6, 0, 0, (ps.getD k zeroS).k⟩] := by
        unfold insR
        rw [hc, if_neg (by decide), if_pos (show asksC 6 = false from rfl)]
      have h0 := hget 0 (by rw [hins]; exact Nat.zero_lt_one)
      rw [hins, Nat.add_zero] at h0
      obtain ⟨b, e⟩ := run1 (f := f) (beh := beh) (tr := tr) ho (by omega) h0 (step_ret d 0 0 (ps.getD k zeroS).k s)
      obtain ⟨g, rfl⟩ : ∃ g, f = g + 1 := ⟨f - 1, by omega⟩
      rw [e, run_over rfl, runAt_ret hm d.word k s.a hk hc]
      refine ⟨rfl, rfl, by simp, ?_⟩
      dsimp only
      rw [List.length_append, hN]
      simp only [List.length_cons, List.length_nil]
      omega
    · obtain ⟨hn1, hn2, hn3⟩ := nxt_lt hm d.word k s.a hk hc
      rw [runAt_next hm d.word k s.a hk hc]
      have small : ∀ (i : Ins) (s' : Vm) (x : Int), insR ps sz k = [i] → stepE d i s = (s', x, 0) → s'.over = false → (nxt d.word (ps.getD k zeroS) k s.a).2 = s'.a → posN ps sz k + (1 + x.toNat) = posN ps sz (nxt d.word (ps.getD k zeroS) k s.a).1 →
          ((runE d P (f + 1) (posN ps sz k) s beh tr).err = 0 ∧ (runE d P (f + 1) (posN ps sz k) s beh tr).ans = (bump (runAt d.word ps (nxt d.word (ps.getD k zeroS) k s.a).1 (nxt d.word (ps.getD k zeroS) k s.a).2)).1 ∧
          tr.length + (bump (runAt d.word ps (nxt d.word (ps.getD k zeroS) k s.a).1 (nxt d.word (ps.getD k zeroS) k s.a).2)).2 ≤ (runE d P (f + 1) (posN ps sz k) s beh tr).steps ∧
          2 * (runE d P (f + 1) (posN ps sz k) s beh tr).steps + (ps.length - k) + posN ps sz k ≤ 2 * (tr.length + (bump (runAt d.word ps (nxt d.word (ps.getD k zeroS) k s.a).1 (nxt d.word (ps.getD k zeroS) k s.a).2)).2) + P.length) := fun i s' x hins hst ho' ha hx => by
        have h0 := hget 0 (by rw [hins]; exact Nat.zero_lt_one)
        rw [hins, Nat.add_zero] at h0
        obtain ⟨b, e⟩ := run1 (f := f) (beh := beh) (tr := tr) ho (by omega) h0 hst
        rw [e, hx, ha]
        have hup := pos_up' ps sz (show k + 1 ≤ (nxt d.word (ps.getD k zeroS) k s.a).1 by omega)
        obtain ⟨i1, i2, i3, i4⟩ := link_sim hm hz d P hP hk0 m (nxt d.word (ps.getD k zeroS) k s.a).1 f s' b (tr ++ [posN ps sz k]) (by omega) hn3 ho' (by omega)
        rw [List.length_append, List.length_singleton] at i3 i4
        refine ⟨i1, i2, ?_, ?_⟩
        · show tr.length + (_ + 1) ≤ _
          omega
        · show _ ≤ 2 * (tr.length + (_ + 1)) + _
          omega
      rcases hK with ⟨q, _, _, q4⟩ | ⟨q, _, _⟩ | ⟨q, _, _⟩ | ⟨q, q0, q3, q1⟩ | ⟨q, q1, q2⟩
      · have hins : insR ps sz k = [⟨32, 0, 0, (ps.getD k zeroS).k⟩] := by unfold insR; rw [q, if_neg (by decide), if_pos (show asksC 32 = false from rfl)]
        have hn : nxt d.word (ps.getD k zeroS) k s.a = (k + 1, d.word (ps.getD k zeroS).k) := by unfold nxt; rw [if_pos q]
        refine small _ _ _ hins (step_ld d 0 0 _ s (word_may hkk q4)) ho (by rw [hn]) ?_
        rw [hn, hps, hins]
        rfl
      · have hins : insR ps sz k = [⟨84, 0, 0, (ps.getD k zeroS).k⟩] := by unfold insR; rw [q, if_neg (by decide), if_pos (show asksC 84 = false from rfl)]
        have hn : nxt d.word (ps.getD k zeroS) k s.a = (k + 1, bits .and .u32 s.a (ps.getD k zeroS).k) := by unfold nxt; rw [if_neg (by omega), if_pos q]
        refine small _ _ _ hins (step_and d 0 0 _ s) ho (by rw [hn]) ?_
        rw [hn, hps, hins]
        rfl
      · exact absurd q hc
      · have hins : insR ps sz k = [⟨5, 0, 0, dsum sz (k + 1) ((ps.getD k zeroS).th.toNat - (k + 1))⟩] := by unfold insR; rw [if_pos q]
        have hn : nxt d.word (ps.getD k zeroS) k s.a = ((ps.getD k zeroS).th.toNat, s.a) := nxt_ja q _ _ _
        have hd := dsum_to hz (show k < (ps.getD k zeroS).th.toNat by omega) (by omega)
        have hup := pos_up' ps sz (show k + 1 ≤ (ps.getD k zeroS).th.toNat by omega)
        have hpl : posN ps sz (k + 1) = posN ps sz k + 1 := by rw [hps, hins]; rfl
        refine small _ _ _ hins (step_ja d 0 0 _ s) ho (by rw [hn]) ?_
        rw [hn, hd]
        show _ = posN ps sz (ps.getD k zeroS).th.toNat
        omega
      · have qa := asks_code.2 q
        have h5 : (ps.getD k zeroS).code ≠ 5 := by omega
        have hn : nxt d.word (ps.getD k zeroS) k s.a = if holdS (ps.getD k zeroS) s.a then ((ps.getD k zeroS).th.toNat, s.a) else ((ps.getD k zeroS).el.toNat, s.a) := nxt_as (by omega) _ _ _
        have hh : ∀ a, holdS ⟨(ps.getD k zeroS).code, (ps.getD k zeroS).k, (ps.getD k zeroS).th, (ps.getD k zeroS).el⟩ a = holdS (ps.getD k zeroS) a := fun a => holdS_code rfl rfl a
        have hd1 := dsum_to hz (show k < (ps.getD k zeroS).th.toNat by omega) (by omega)
        have hd2 := dsum_to hz (show k < (ps.getD k zeroS).el.toNat by omega) (by omega)
        have hup1 := pos_up' ps sz (show k + 1 ≤ (ps.getD k zeroS).th.toNat by omega)
        have hup2 := pos_up' ps sz (show k + 1 ≤ (ps.getD k zeroS).el.toNat by omega)
        rcases hz.one k hk with h1 | h3
        · have hins : insR ps sz k = [⟨(ps.getD k zeroS).code, dsum sz (k + 1) ((ps.getD k zeroS).th.toNat - (k + 1)), dsum sz (k + 1) ((ps.getD k zeroS).el.toNat - (k + 1)), (ps.getD k zeroS).k⟩] := by
            unfold insR
            rw [if_neg h5, if_neg (by rw [qa]; decide), if_pos h1]
          have hpl : posN ps sz (k + 1) = posN ps sz k + 1 := by rw [hps, hins]; rfl
          refine small _ _ _ hins (step_as d q _ _ _ (ps.getD k zeroS).th (ps.getD k zeroS).el s) ho (by rw [hn]; split <;> rfl) ?_
          rw [hn, hh, hd1, hd2]
          cases holdS (ps.getD k zeroS) s.a
          · rw [if_neg (by decide), if_neg (by decide)]
            show _ = posN ps sz (ps.getD k zeroS).el.toNat
            omega
          · rw [if_pos rfl, if_pos rfl]
            show _ = posN ps sz (ps.getD k zeroS).th.toNat
            omega
        · have hins : insR ps sz k = [⟨(ps.getD k zeroS).code, 0, 1, (ps.getD k zeroS).k⟩, ⟨5, 0, 0, dsum sz (k + 1) ((ps.getD k zeroS).th.toNat - (k + 1)) + 1⟩, ⟨5, 0, 0, dsum sz (k + 1) ((ps.getD k zeroS).el.toNat - (k + 1))⟩] := by
            unfold insR
            rw [if_neg h5, if_neg (by rw [qa]; decide), if_neg (by omega)]
          have hpl : posN ps sz (k + 1) = posN ps sz k + 3 := by rw [hps, hins]; rfl
          have g0 := hget 0 (by rw [hins]; show 0 < 3; omega)
          have g1 := hget 1 (by rw [hins]; show 1 < 3; omega)
          have g2 := hget 2 (by rw [hins]; show 2 < 3; omega)
          rw [hins, Nat.add_zero] at g0
          rw [hins] at g1 g2
          obtain ⟨b, e⟩ := run1 (f := f) (beh := beh) (tr := tr) ho (by omega) g0 (step_as d q 0 1 _ (ps.getD k zeroS).th (ps.getD k zeroS).el s)
          obtain ⟨g, rfl⟩ : ∃ g, f = g + 1 := ⟨f - 1, by omega⟩
          rw [e, hh, hn]
          cases holdS (ps.getD k zeroS) s.a
          · rw [if_neg (by decide), if_neg (by decide)]
            dsimp only
            obtain ⟨b2, e2⟩ := run1 (f := g) (beh := b) (tr := tr ++ [posN ps sz k]) ho (by omega) g2 (step_ja d 0 0 (dsum sz (k + 1) ((ps.getD k zeroS).el.toNat - (k + 1))) s)
            rw [show posN ps sz k + (1 + (1 : Int).toNat) = posN ps sz k + 2 from rfl, e2, hd2, show posN ps sz k + 2 + (1 + ((posN ps sz (ps.getD k zeroS).el.toNat : Int) - posN ps sz (k + 1)).toNat) = posN ps sz (ps.getD k zeroS).el.toNat by omega]
            obtain ⟨i1, i2, i3, i4⟩ := link_sim hm hz d P hP hk0 m (ps.getD k zeroS).el.toNat g s b2 (tr ++ [posN ps sz k] ++ [posN ps sz k + 2]) (by omega) (by omega) ho (by omega)
            rw [List.length_append, List.length_append, List.length_singleton, List.length_singleton] at i3 i4
            refine ⟨i1, i2, ?_, ?_⟩
            · show tr.length + (_ + 1) ≤ _
              omega
            · show _ ≤ 2 * (tr.length + (_ + 1)) + _
              omega
          · rw [if_pos rfl, if_pos rfl]
            dsimp only
            obtain ⟨b2, e2⟩ := run1 (f := g) (beh := b) (tr := tr ++ [posN ps sz k]) ho (by omega) g1 (step_ja d 0 0 (dsum sz (k + 1) ((ps.getD k zeroS).th.toNat - (k + 1)) + 1) s)
            rw [show posN ps sz k + (1 + (0 : Int).toNat) = posN ps sz k + 1 from rfl, e2, hd1, show posN ps sz k + 1 + (1 + ((posN ps sz (ps.getD k zeroS).th.toNat : Int) - posN ps sz (k + 1) + 1).toNat) = posN ps sz (ps.getD k zeroS).th.toNat by omega]
            obtain ⟨i1, i2, i3, i4⟩ := link_sim hm hz d P hP hk0 m (ps.getD k zeroS).th.toNat g s b2 (tr ++ [posN ps sz k] ++ [posN ps sz k + 1]) (by omega) (by omega) ho (by omega)
            rw [List.length_append, List.length_append, List.length_singleton, List.length_singleton] at i3 i4
            refine ⟨i1, i2, ?_, ?_⟩
            · show tr.length + (_ + 1) ≤ _
              omega
            · show _ ≤ 2 * (tr.length + (_ + 1)) + _
              omega
end Go.Proofs.Ytjlhfmedaandeaa
