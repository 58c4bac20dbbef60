import Derived.Test.YtjlhfmedaandeaaLinkS
/- The linked program is taken by the check: plain law. -/
namespace Go.Proofs.Ytjlhfmedaandeaa
open Go.RowKit
set_option linter.unusedVariables false
set_option linter.unusedSimpArgs false

def rowC (c : Int) : Prop := c = 32 ∨ c = 84 ∨ c = 6 ∨ c = 5 ∨ c = 21 ∨ c = 37 ∨ c = 53 ∨ c = 69
theorem oneE_row {c jt jf k l : Int} (hc : rowC c) (h32 : c = 32 → k % 4 = 0 ∧ k < 64) (h5 : c = 5 → k < max l 0) (h4 : c = 21 ∨ c = 37 ∨ c = 53 ∨ c = 69 → max jt jf < max l 0) : oneE ⟨c, jt, jf, k⟩ l = 0 := by
  have hcls : clsOf c ≠ 2 := by
    rcases hc with rfl | rfl | rfl | rfl | rfl | rfl | rfl | rfl <;> decide +kernel
  have w1 : wr1 ⟨c, jt, jf, k⟩ = false := by
    unfold wr1
    dsimp only
    rw [known_row hc]
    rfl
  have w2 : wr2 ⟨c, jt, jf, k⟩ = false := by
    unfold wr2
    dsimp only
    by_cases e : c = 32
    · obtain ⟨a, b⟩ := h32 e
      have b' : ¬ 64 ≤ k := by omega
      simp [a, b']
    · have : (c == 32) = false := by simpa using e
      rw [this]; rfl
  have n96 : (c == 96) = false := by unfold rowC at hc; simp; omega
  have n97 : (c == 97) = false := by unfold rowC at hc; simp; omega
  have n52 : (c == 52) = false := by unfold rowC at hc; simp; omega
  have n100 : (c == 100) = false := by unfold rowC at hc; simp; omega
  have n116 : (c == 116) = false := by unfold rowC at hc; simp; omega
  have ncl : (clsOf c == 2) = false := by simpa using hcls
  have w3 : wr3 ⟨c, jt, jf, k⟩ = false := by unfold wr3; dsimp only; rw [n96, n97, ncl]; rfl
  have w4 : wr4 ⟨c, jt, jf, k⟩ = false := by unfold wr4; dsimp only; rw [n52]; rfl
  have w5 : wr5 ⟨c, jt, jf, k⟩ = false := by unfold wr5; dsimp only; rw [n100, n116]; rfl
  have w6 : wr6 ⟨c, jt, jf, k⟩ (max l 0) = false := by
    unfold wr6
    dsimp only
    by_cases e5 : c = 5
    · have := h5 e5
      have e : (c == 5) = true := by simpa using e5
      rw [e, if_pos rfl, decide_eq_false_iff_not]
      omega
    · have e : (c == 5) = false := by simpa using e5
      rw [e, if_neg (by decide)]
      by_cases e4 : c = 21 ∨ c = 37 ∨ c = 53 ∨ c = 69
      · have := h4 e4
        have d : decide (max l 0 ≤ max jt jf) = false := by rw [decide_eq_false_iff_not]; omega
        rw [d, Bool.and_false]
      · have hn : clsOf c ≠ 4 := by
          unfold rowC at hc
          have : c = 32 ∨ c = 84 ∨ c = 6 := by omega
          rcases this with rfl | rfl | rfl <;> decide +kernel
        have : (clsOf c == 4) = false := by simpa using hn
        rw [this]; rfl
  unfold oneE
  rw [w1, w2, w3, w4, w5, w6]
  rfl
theorem unsure_none (ps : List Ins) (h : ∀ j, j < ps.length → rdb (ps.getD j zeroI) = false) : unsureL ps = [] := by
  have hz : rdb zeroI = false := by decide
  unfold unsureL unU
  rw [List.filterMap_eq_nil_iff]
  intro j hj
  have : rdb (ps.getD j zeroI) = false := by
    by_cases hl : j < ps.length
    · exact h j hl
    · rw [List.getD_eq_getElem?_getD, List.getElem?_eq_none (by omega)]; exact hz
  unfold badR
  rw [this]
  simp
theorem pos_split (ps : List Sy) (sz : List Int) : ∀ m j, j < posN ps sz m → ∃ k r, k < m ∧ r < (insR ps sz k).length ∧ j = posN ps sz k + r
  | 0, j, h => by unfold posN fromR at h; simp at h
  | m + 1, j, h => by
    have hs := pos_succ ps sz m
    by_cases e : j < posN ps sz m
    · obtain ⟨k, r, a, b, c⟩ := pos_split ps sz m j e
      exact ⟨k, r, by omega, b, c⟩
    · exact ⟨m, j - posN ps sz m, by omega, by omega, by omega⟩
theorem pos_zero (ps : List Sy) (sz : List Int) : posN ps sz 0 = 0 := rfl
/-- What an instruction of a linked program is, at a place. -/
structure LI (N j : Nat) (i : Ins) : Prop where
  c : rowC i.code
  ld : i.code = 32 → i.k % 4 = 0 ∧ i.k < 64
  ja : i.code = 5 → 0 ≤ i.k ∧ i.k < (N : Int) - 1 - j
  ask : i.code = 21 ∨ i.code = 37 ∨ i.code = 53 ∨ i.code = 69 → i.jt < (N : Int) - 1 - j ∧ i.jf < (N : Int) - 1 - j
  t : 0 ≤ i.jt ∧ i.jt ≤ 255
  f : 0 ≤ i.jf ∧ i.jf ≤ 255
theorem link_ins {ps : List Sy} (hm : MayL ps) {sz : List Int} (hz : Szd ps sz) (k r : Nat) (hk : k < ps.length) (hr : r < (insR ps sz k).length) :
    LI (posN ps sz ps.length) (posN ps sz k + r) ((insR ps sz k).getD r zeroI) ∧ (((insR ps sz k).getD r zeroI).k = (ps.getD k zeroS).k ∨ ((insR ps sz k).getD r zeroI).code = 5) := by
  have hps := pos_succ ps sz k
  have hsu := pos_up' ps sz (show k + 1 ≤ ps.length by omega)
  have hK := kind_of (hm.one k hk)
  have plain : ∀ (c : Int), (c = 32 ∨ c = 84 ∨ c = 6) → (ps.getD k zeroS).code = c → (c = 32 → (ps.getD k zeroS).k % 4 = 0 ∧ (ps.getD k zeroS).k < 64) →
      (LI (posN ps sz ps.length) (posN ps sz k + r) ((insR ps sz k).getD r zeroI) ∧ (((insR ps sz k).getD r zeroI).k = (ps.getD k zeroS).k ∨ ((insR ps sz k).getD r zeroI).code = 5)) := fun c hc e h32 => by
    have hins : insR ps sz k = [⟨c, 0, 0, (ps.getD k zeroS).k⟩] := by
      unfold insR
      rw [e, if_neg (by omega), if_pos (by rcases hc with rfl | rfl | rfl <;> rfl)]
    rw [hins] at hr ⊢
    obtain rfl : r = 0 := by simpa using hr
    show LI _ _ (⟨c, 0, 0, (ps.getD k zeroS).k⟩ : Ins) ∧ _
    refine ⟨⟨?_, h32, fun h => ?_, fun h => ?_, ⟨by first | (dsimp only; omega) | omega, by first | (dsimp only; omega) | omega⟩, ⟨by first | (dsimp only; omega) | omega, by first | (dsimp only; omega) | omega⟩⟩, .inl rfl⟩
    · unfold rowC; dsimp only; omega
    · dsimp only at h; omega
    · dsimp only at h; omega
  rcases hK with ⟨q, _, _, q4⟩ | ⟨q, _, _⟩ | ⟨q, _, _⟩ | ⟨q, q0, q3, q1⟩ | ⟨q, q1, q2⟩
  · exact plain 32 (.inl rfl) q (fun _ => q4)
  · exact plain 84 (.inr (.inl rfl)) q (fun h => by omega)
  · exact plain 6 (.inr (.inr rfl)) q (fun h => by omega)
  · have hins : insR ps sz k = [⟨5, 0, 0, dsum sz (k + 1) ((ps.getD k zeroS).th.toNat - (k + 1))⟩] := by unfold insR; rw [if_pos q]
    have hd := dsum_to hz (show k < (ps.getD k zeroS).th.toNat by omega) (by omega)
    have hup := pos_up' ps sz (show k + 1 ≤ (ps.getD k zeroS).th.toNat by omega)
    have hup2 := pos_up' ps sz (show (ps.getD k zeroS).th.toNat ≤ ps.length by omega)
    rw [hins] at hr hps ⊢
    obtain rfl : r = 0 := by simpa using hr
    simp only [List.length_cons, List.length_nil] at hps
    show LI _ _ (⟨5, 0, 0, dsum sz (k + 1) ((ps.getD k zeroS).th.toNat - (k + 1))⟩ : Ins) ∧ _
    refine ⟨⟨.inr (.inr (.inr (.inl rfl))), fun h => absurd h (show ¬ (5 : Int) = 32 by decide), fun _ => ?_, fun h => absurd h (show ¬ ((5 : Int) = 21 ∨ (5 : Int) = 37 ∨ (5 : Int) = 53 ∨ (5 : Int) = 69) by decide), ⟨by first | (dsimp only; omega) | omega, by first | (dsimp only; omega) | omega⟩, ⟨by first | (dsimp only; omega) | omega, by first | (dsimp only; omega) | omega⟩⟩, .inr rfl⟩
    show 0 ≤ dsum sz (k + 1) ((ps.getD k zeroS).th.toNat - (k + 1)) ∧ dsum sz (k + 1) ((ps.getD k zeroS).th.toNat - (k + 1)) < _
    rw [hd]
    omega
  · have qa := asks_code.2 q
    have h5 : (ps.getD k zeroS).code ≠ 5 := by omega
    have hd1 := dsum_to hz (show k < (ps.getD k zeroS).th.toNat by omega) (by omega)
    have hd2 := dsum_to hz (show k < (ps.getD k zeroS).el.toNat by omega) (by omega)
    have hup1 := pos_up' ps sz (show k + 1 ≤ (ps.getD k zeroS).th.toNat by omega)
    have hup2 := pos_up' ps sz (show k + 1 ≤ (ps.getD k zeroS).el.toNat by omega)
    have hup3 := pos_up' ps sz (show (ps.getD k zeroS).th.toNat ≤ ps.length by omega)
    have hup4 := pos_up' ps sz (show (ps.getD k zeroS).el.toNat ≤ ps.length by omega)
    rcases hz.one k hk with h1 | h3
    · have hins : insR ps sz k = [⟨(ps.getD k zeroS).code, dsum sz (k + 1) ((ps.getD k zeroS).th.toNat - (k + 1)), dsum sz (k + 1) ((ps.getD k zeroS).el.toNat - (k + 1)), (ps.getD k zeroS).k⟩] := by
        unfold insR
        rw [if_neg h5, if_neg (by rw [qa]; decide), if_pos h1]
      obtain ⟨n1, n2⟩ := hz.near k hk h1 qa
      rw [hins] at hr hps ⊢
      obtain rfl : r = 0 := by simpa using hr
      simp only [List.length_cons, List.length_nil] at hps
      rw [hd1] at n1 ⊢
      rw [hd2] at n2 ⊢
      show LI _ _ (⟨(ps.getD k zeroS).code, _, _, (ps.getD k zeroS).k⟩ : Ins) ∧ _
      refine ⟨⟨?_, fun h => ?_, fun h => absurd h h5, fun _ => ?_, ?_, ?_⟩, .inl rfl⟩
      · unfold rowC; dsimp only; omega
      · dsimp only at h; omega
      · dsimp only; omega
      · dsimp only; omega
      · dsimp only; omega
    · have hins : insR ps sz k = [⟨(ps.getD k zeroS).code, 0, 1, (ps.getD k zeroS).k⟩, ⟨5, 0, 0, dsum sz (k + 1) ((ps.getD k zeroS).th.toNat - (k + 1)) + 1⟩, ⟨5, 0, 0, dsum sz (k + 1) ((ps.getD k zeroS).el.toNat - (k + 1))⟩] := by
        unfold insR
        rw [if_neg h5, if_neg (by rw [qa]; decide), if_neg (by omega)]
      rw [hins] at hr hps ⊢
      rw [hd1, hd2]
      simp only [List.length_cons, List.length_nil] at hps hr
      obtain rfl | rfl | rfl : r = 0 ∨ r = 1 ∨ r = 2 := by omega
      · show LI _ _ (⟨(ps.getD k zeroS).code, 0, 1, (ps.getD k zeroS).k⟩ : Ins) ∧ _
        refine ⟨⟨?_, fun h => ?_, fun h => absurd h h5, fun _ => ?_, ⟨by first | (dsimp only; omega) | omega, by first | (dsimp only; omega) | omega⟩, ⟨by first | (dsimp only; omega) | omega, by first | (dsimp only; omega) | omega⟩⟩, .inl rfl⟩
        · unfold rowC; dsimp only; omega
        · dsimp only at h; omega
        · dsimp only; omega
      · show LI _ _ (⟨5, 0, 0, _⟩ : Ins) ∧ _
        refine ⟨⟨.inr (.inr (.inr (.inl rfl))), fun h => absurd h (show ¬ (5 : Int) = 32 by decide), fun _ => ?_, fun h => absurd h (show ¬ ((5 : Int) = 21 ∨ (5 : Int) = 37 ∨ (5 : Int) = 53 ∨ (5 : Int) = 69) by decide), ⟨by first | (dsimp only; omega) | omega, by first | (dsimp only; omega) | omega⟩, ⟨by first | (dsimp only; omega) | omega, by first | (dsimp only; omega) | omega⟩⟩, .inr rfl⟩
        dsimp only; omega
      · show LI _ _ (⟨5, 0, 0, _⟩ : Ins) ∧ _
        refine ⟨⟨.inr (.inr (.inr (.inl rfl))), fun h => absurd h (show ¬ (5 : Int) = 32 by decide), fun _ => ?_, fun h => absurd h (show ¬ ((5 : Int) = 21 ∨ (5 : Int) = 37 ∨ (5 : Int) = 53 ∨ (5 : Int) = 69) by decide), ⟨by first | (dsimp only; omega) | omega, by first | (dsimp only; omega) | omega⟩, ⟨by first | (dsimp only; omega) | omega, by first | (dsimp only; omega) | omega⟩⟩, .inr rfl⟩
        dsimp only; omega
theorem link_at {ps : List Sy} (hm : MayL ps) {sz : List Int} (hz : Szd ps sz) (j : Nat) (hj : j < (fromR ps sz 0 ps.length).length) :
    LI (fromR ps sz 0 ps.length).length j ((fromR ps sz 0 ps.length).getD j zeroI) ∧ ((∃ k, k < ps.length ∧ ((fromR ps sz 0 ps.length).getD j zeroI).k = (ps.getD k zeroS).k) ∨ ((fromR ps sz 0 ps.length).getD j zeroI).code = 5) := by
  obtain ⟨k, r, hk, hr, rfl⟩ := pos_split ps sz ps.length j hj
  rw [prog_get ps sz k r hk hr]
  obtain ⟨h1, h2⟩ := link_ins hm hz k r hk hr
  exact ⟨h1, h2.imp (fun h => ⟨k, hk, h⟩) id⟩
theorem link_taken {ps : List Sy} (hm : MayL ps) {sz : List Int} (hz : Szd ps sz) (hb : (fromR ps sz 0 ps.length).length ≤ 4096) : atE (fromR ps sz 0 ps.length) = (0, 0) := by
  have hl := pos_up' ps sz (show 0 ≤ ps.length by omega)
  rw [pos_zero] at hl
  have hl1 := hm.l1
  have hN : (fromR ps sz 0 ps.length).length = posN ps sz ps.length := rfl
  have hat := fun j hj => (link_at hm hz j hj).1
  refine taken_at _ ⟨by omega, hb, fun j hj => ?_, ?_, unsure_none _ fun j hj => ?_⟩
  · have h := hat j hj
    unfold errAt
    generalize (fromR ps sz 0 ps.length).getD j zeroI = i at *
    obtain ⟨c, jt, jf, k⟩ := i
    have e : max ((((fromR ps sz 0 ps.length).length : Nat) : Int) - 1 - (j : Int)) 0 = (((fromR ps sz 0 ps.length).length : Nat) : Int) - 1 - (j : Int) := by omega
    refine oneE_row h.c h.ld (fun q => ?_) (fun q => ?_)
    · rw [e]; exact (h.ja q).2
    · rw [e]
      have := h.ask q
      dsimp only at this
      omega
  · have hlast := hm.last
    have hins : insR ps sz (ps.length - 1) = [⟨6, 0, 0, (ps.getD (ps.length - 1) zeroS).k⟩] := by
      unfold insR
      rw [hlast, if_neg (by decide), if_pos (show asksC 6 = false from rfl)]
    have hp := pos_succ ps sz (ps.length - 1)
    rw [show ps.length - 1 + 1 = ps.length by omega, hins] at hp
    simp only [List.length_cons, List.length_nil] at hp
    have hg := prog_get ps sz (ps.length - 1) 0 (by omega) (by rw [hins]; exact Nat.zero_lt_one)
    rw [hins, Nat.add_zero] at hg
    rw [show (fromR ps sz 0 ps.length).length - 1 = posN ps sz (ps.length - 1) by omega, hg]
    exact cls_6
  · have h := (hat j hj).c
    generalize (fromR ps sz 0 ps.length).getD j zeroI = i at *
    unfold rdb
    unfold rowC at h
    have n96 : (i.code == 96) = false := by simp; omega
    have n97 : (i.code == 97) = false := by simp; omega
    rw [n96, n97]
    rfl
theorem link_ok {ps : List Sy} (hm : MayL ps) {sz : List Int} (hz : Szd ps sz) (hb : (fromR ps sz 0 ps.length).length ≤ 4096) (hok : ∀ i ∈ ps, i.ok) : ∀ i ∈ fromR ps sz 0 ps.length, i.ok := fun i hi => by
  obtain ⟨j, hj, rfl⟩ := List.getElem_of_mem hi
  obtain ⟨h, h2⟩ := link_at hm hz j hj
  have e : (fromR ps sz 0 ps.length).getD j zeroI = (fromR ps sz 0 ps.length)[j] := by simp [List.getD_eq_getElem?_getD, hj]
  rw [e] at h h2
  generalize (fromR ps sz 0 ps.length)[j] = i at *
  have hc := h.c
  unfold rowC at hc
  refine ⟨by omega, ⟨h.t.1, by have := h.t.2; omega⟩, ⟨h.f.1, by have := h.f.2; omega⟩, ?_⟩
  rcases h2 with ⟨k, hk, h2⟩ | h2
  · have hg : ps.getD k zeroS = ps[k] := by simp [List.getD_eq_getElem?_getD, hk]
    obtain ⟨_, o2, _, _⟩ := hok _ (List.getElem_mem hk)
    rw [h2, hg]
    exact ⟨o2.1, o2.2⟩
  · have := h.ja h2
    omega
theorem dsum_ind {ps : List Sy} {sz : List Int} (h : Szd ps sz) (hl : sz.length = ps.length) (lo : Nat) : ∀ k, lo + k ≤ ps.length → dsum sz lo k = k + 2 * dsum (ind sz) lo k
  | 0, _ => by simp [dsum]
  | k + 1, hk => by
    have ih := dsum_ind h hl lo k (by omega)
    have e : (ind sz).getD (lo + k) 0 = if sz.getD (lo + k) 0 = 3 then 1 else 0 := by
      have h1 : lo + k < sz.length := by omega
      unfold ind
      simp [List.getD_eq_getElem?_getD, h1]
    show dsum sz lo k + sz.getD (lo + k) 0 = _ + 2 * (dsum (ind sz) lo k + (ind sz).getD (lo + k) 0)
    rw [ih, e]
    rcases h.one (lo + k) (by omega) with h1 | h1
    · rw [h1, if_neg (by decide)]; omega
    · rw [h1, if_pos rfl]; omega
/-- All that is told of a linked program. -/
theorem link_all {ps : List Sy} (hm : MayL ps) : (lall ps).bk.reverse = fromR ps (szUp ps (List.range ps.length).reverse) 0 ps.length ∧ ((lall ps).bk.length : Int) = ps.length + 2 * (lall ps).far ∧ Szd ps (szUp ps (List.range ps.length).reverse) := by
  have hz := szd_of hm
  refine ⟨prog_same ps hm, ?_, hz⟩
  rw [len_same ps hm, far_same ps hm, dsum_ind hz (szUp_bd ps _).2 0 ps.length (by omega)]
theorem link_run {ps : List Sy} (hm : MayL ps) (hok : ∀ i ∈ ps, i.ok) (d : Dat) : (runR d (lall ps).bk.reverse).err = 0 ∧ (runR d (lall ps).bk.reverse).ans = (runS d.word ps).1 ∧
    (runS d.word ps).2 ≤ (runR d (lall ps).bk.reverse).steps ∧ ((runR d (lall ps).bk.reverse).steps : Int) ≤ (runS d.word ps).2 + (lall ps).far := by
  obtain ⟨h1, h2, hz⟩ := link_all hm
  have hl := hm.l1
  have hlen : (lall ps).bk.reverse.length = (lall ps).bk.length := List.length_reverse
  rw [h1] at hlen ⊢
  have h := link_sim hm hz d _ rfl (fun i hi => by
    have hg : ps.getD i zeroS = ps[i] := by simp [List.getD_eq_getElem?_getD, hi]
    rw [hg]
    exact (hok _ (List.getElem_mem hi)).2.1.1) ps.length 0 ((fromR ps (szUp ps (List.range ps.length).reverse) 0 ps.length).length + 2) vm0 46 [] (by omega) (by omega) rfl (by omega)
  rw [pos_zero] at h
  obtain ⟨i1, i2, i3, i4⟩ := h
  simp only [List.length_nil, Nat.zero_add, Nat.add_zero, Nat.sub_zero] at i3 i4
  refine ⟨i1, i2, i3, ?_⟩
  show ((runE d _ _ 0 vm0 46 []).steps : Int) ≤ ((runAt d.word ps 0 0).2 : Int) + (lall ps).far
  have e : vm0.a = 0 := rfl
  rw [e] at i4
  omega
end Go.Proofs.Ytjlhfmedaandeaa
