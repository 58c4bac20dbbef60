import Derived.Test.YtkejcfbhikpibaaCells18
import Derived.Test.YtkejcfbhikpibaaInsnB
/- The plain law: the masks are the document's, cell by cell. No program is walked here. -/
namespace Go.Proofs.Ytkejcfbhikpibaa
open Go.RowKit
set_option linter.unusedVariables false
set_option linter.unusedSimpArgs false

theorem ent_store : ∀ e ∈ ents, (e.cls == 2) = (e.code == 2 || e.code == 3) := by
  intro e he
  simp only [ents, List.mem_cons, List.not_mem_nil, or_false] at he
  rcases he with rfl | rfl | rfl | rfl | rfl | rfl | rfl | rfl | rfl | rfl | rfl | rfl | rfl | rfl | rfl | rfl | rfl | rfl | rfl | rfl | rfl | rfl | rfl | rfl | rfl | rfl | rfl | rfl | rfl | rfl | rfl | rfl | rfl | rfl | rfl | rfl | rfl | rfl | rfl | rfl | rfl
  all_goals kernel_rfl
theorem cls_store (c : Int) : (clsOf c == 2) = (c == 2 || c == 3) := by
  unfold clsOf
  rcases by_cases_ c with h | ⟨e, he, rfl, h⟩
  · have h2 : c ≠ 2 := fun e => by
      subst e
      have h4 : (byE 2).2 = true := by kernel_rfl
      rw [h] at h4
      cases h4
    have h3 : c ≠ 3 := fun e => by
      subst e
      have h4 : (byE 3).2 = true := by kernel_rfl
      rw [h] at h4
      cases h4
    rw [h]
    have e2 : (c == 2) = false := by simpa using h2
    have e3 : (c == 3) = false := by simpa using h3
    rw [e2, e3]
    rfl
  · rw [h]
    exact ent_store e he
theorem wr_bit (i : Ins) (hi : i.ok) (c : Nat) (hc : c < 16) : ∃ x : Nat, wrM i = x ∧ x < 65536 ∧ x.testBit c = skipC i c := by
  have k0 : 0 ≤ i.k := hi.2.2.2.1
  obtain ⟨k, hk⟩ : ∃ k : Nat, i.k = k := ⟨i.k.toNat, by omega⟩
  unfold wrM skipC
  rw [cls_store, hk]
  cases (i.code == 2 || i.code == 3) with
  | false => exact ⟨0, by simp, by omega, by simp⟩
  | true =>
    by_cases h : k < 16
    · have hk' : ((k : Int) < 16) := by omega
      simp only [hk', decide_true, Bool.and_self, if_true, Bool.true_and, Int.toNat_natCast]
      refine ⟨2 ^ k, by simp, Nat.lt_of_lt_of_le (Nat.pow_lt_pow_right (by omega) h) (by decide), ?_⟩
      rw [Nat.testBit_two_pow]
      by_cases e : k = c
      · subst e; simp
      · have e2 : ¬ ((k : Int) = (c : Int)) := by omega
        simp [e, e2]
    · have hk' : ¬ ((k : Int) < 16) := by omega
      simp only [hk', decide_false, Bool.and_false, Bool.false_eq_true, if_false, Bool.true_and]
      refine ⟨0, rfl, by omega, ?_⟩
      have : ¬ ((k : Int) = (c : Int)) := by omega
      simp [this]

structure BitInv (c : Nat) (S : List Int) (R un : List Bool) : Prop where
  l1 : S.length = R.length
  l2 : un.length = R.length
  no : ∀ j, j < R.length → R.getD j false = false → un.getD j false = false
  yes : ∀ j, j < R.length → R.getD j false = true → ∃ x : Nat, S.getD j 0 = x ∧ x < 65536 ∧ x.testBit c = !un.getD j false
theorem come_bit {c : Nat} {S : List Int} {R un : List Bool} (h : BitInv c S R un) (mm : Nat) (hm : mm < 65536) (z : Nat) (hz : z < R.length) (hc : c < 16) :
    BitInv c (comeS S R z mm) (R.set z true) (if mm.testBit c then un else un.set z true) := by
  have hu : (if mm.testBit c then un else un.set z true).length = R.length := by split <;> simp [h.l2]
  refine ⟨by simp [comeS, h.l1], by simpa using hu, fun j hj hr => ?_, fun j hj hr => ?_⟩
  · rw [List.length_set] at hj
    rw [getD_set] at hr
    split at hr
    · cases hr
    · rename_i hne
      have h1 := h.no j hj hr
      have hne' : z ≠ j := fun e => hne ⟨e, hj⟩
      split
      · exact h1
      · rw [getD_set, if_neg (fun e => hne' e.1)]; exact h1
  · rw [List.length_set] at hj
    unfold comeS
    by_cases e : z = j
    · subst e
      rw [getD_set, if_pos ⟨rfl, by rw [h.l1]; exact hj⟩]
      cases hrz : R.getD z false with
      | true =>
        obtain ⟨x, h1, h2, h3⟩ := h.yes z hj hrz
        simp only [if_true]
        refine ⟨x &&& mm, by rw [h1, and16 x mm h2 hm], Nat.and_lt_two_pow (n := 16) _ (by omega), ?_⟩
        rw [Nat.testBit_and, h3]
        cases mm.testBit c with
        | true => simp
        | false => simp only [Bool.false_eq_true, if_false]; rw [getD_set, if_pos ⟨rfl, by rw [h.l2]; exact hj⟩]; simp
      | false =>
        have h1 := h.no z hj hrz
        simp only [Bool.false_eq_true, if_false]
        refine ⟨65535 &&& mm, by rw [show (65535 : Int) = ((65535 : Nat) : Int) from rfl, and16 65535 mm (by decide) hm], Nat.and_lt_two_pow (n := 16) _ (by omega), ?_⟩
        rw [Nat.testBit_and, show (65535 : Nat) = 2 ^ 16 - 1 from rfl, Nat.testBit_two_pow_sub_one]
        simp only [hc, decide_true, Bool.true_and]
        cases hb : mm.testBit c with
        | true => simp only [if_true]; rw [h1]; rfl
        | false => simp only [Bool.false_eq_true, if_false]; rw [getD_set, if_pos ⟨rfl, by rw [h.l2]; exact hj⟩]; rfl
    · rw [getD_set, if_neg (fun e' => e e'.1)]
      rw [getD_set, if_neg (fun e' => e e'.1)] at hr
      obtain ⟨x, h1, h2, h3⟩ := h.yes j hj hr
      refine ⟨x, h1, h2, ?_⟩
      split
      · exact h3
      · rw [getD_set, if_neg (fun e' => e e'.1)]; exact h3
theorem fold_bit {c : Nat} (mm : Nat) (hm : mm < 65536) (hc : c < 16) : ∀ (ns : List Int) (s : List Int × List Bool) (un : List Bool), BitInv c s.1 s.2 un → (∀ x ∈ ns, x.toNat < s.2.length) →
    BitInv c (ns.foldl (come1 mm) s).1 (ns.foldl (come1 mm) s).2 (if mm.testBit c then un else setAll un ns)
  | [], s, un, h, _ => by
    have : (if mm.testBit c then un else setAll un []) = un := by split <;> rfl
    rw [this]
    exact h
  | n :: ns, s, un, h, hn => by
    have h1 := come_bit h mm hm n.toNat (hn n (by simp)) hc
    have h2 := fold_bit mm hm hc ns (come1 mm s n) _ h1 (fun x hx => by have := hn x (by simp [hx]); simpa [come1] using this)
    rw [List.foldl_cons]
    have : (if mm.testBit c then (if mm.testBit c then un else un.set n.toNat true) else setAll (if mm.testBit c then un else un.set n.toNat true) ns) = (if mm.testBit c then un else setAll un (n :: ns)) := by
      cases mm.testBit c <;> rfl
    rw [this] at h2
    exact h2
theorem sure_bit (ps : List Ins) (hok : ∀ i ∈ ps, i.ok) (c : Nat) (hc : c < 16) : ∀ k, k ≤ ps.length → BitInv c (wupto ps k).1 (wupto ps k).2 (uupto ps c k)
  | 0, _ => by
    have e1 : (wupto ps 0).1 = List.replicate ps.length 0 := rfl
    have e2 : (wupto ps 0).2 = rstart ps.length := rfl
    have e3 : uupto ps c 0 = rstart ps.length := rfl
    rw [e1, e2, e3]
    refine ⟨by simp [rstart], rfl, fun j hj h => h, fun j hj h => ?_⟩
    rw [h]
    have hj' : j < ps.length := by simpa [rstart] using hj
    exact ⟨0, by simp [List.getD_eq_getElem?_getD, hj'], by omega, by simp⟩
  | k + 1, hk => by
    have ih := sure_bit ps hok c hc k (by omega)
    have hl := (wupto_len ps k).2
    have hkl : k < ps.length := by omega
    have hget : ps.getD k zeroI = ps[k] := by rw [List.getD_eq_getElem?_getD, List.getElem?_eq_getElem hkl]; rfl
    rw [wupto_succ, uupto_succ]
    unfold wstep ustep
    cases hr : (wupto ps k).2.getD k false with
    | false =>
      have := ih.no k (by omega) hr
      rw [this]
      simp only [Bool.false_eq_true, if_false]
      exact ih
    | true =>
      simp only [if_true]
      obtain ⟨x, h1, h2, h3⟩ := ih.yes k (by omega) hr
      rw [hget]
      obtain ⟨y, g1, g2, g3⟩ := wr_bit ps[k] (hok _ (List.getElem_mem hkl)) c hc
      rw [h1, g1, or16 x y h2 g2]
      have hm : x ||| y < 65536 := Nat.or_lt_two_pow (n := 16) (by omega) (by omega)
      have hf := fold_bit (x ||| y) hm hc (nextL ps k) (wupto ps k) (uupto ps c k) ih (fun z hz => by have := nextL_bd ps hok k z hz; omega)
      rw [Nat.testBit_or, h3, g3] at hf
      cases hu : (uupto ps c k).getD k false with
      | false =>
        rw [hu] at hf
        simpa using hf
      | true =>
        rw [hu] at hf
        cases hs : skipC ps[k] c with
        | true => rw [hs] at hf; simpa using hf
        | false => rw [hs] at hf; simpa using hf
theorem cell_get (ps : List Ins) (c : Nat) (out : List Int) (j : Nat) (hj : j < out.length) : ∀ k, (cellUpto ps c out k).getD j 0 = if j < k ∧ (uupto ps c j).getD j false = false then bits .or .u16 (out.getD j 0) (2 ^ c : Nat) else out.getD j 0
  | 0 => by simp [cellUpto]
  | k + 1 => by
    have ih := cell_get ps c out j hj k
    rw [cellUpto_succ]
    unfold sstep
    cases hu : (uupto ps c k).getD k false with
    | true =>
      simp only [if_true]
      rw [ih]
      by_cases h : k = j
      · subst h
        rw [if_neg (fun e => by rw [hu] at e; exact absurd e.2 (by decide)), if_neg (fun e => by rw [hu] at e; exact absurd e.2 (by decide))]
      · by_cases hh : j < k
        · simp only [hh, show j < k + 1 by omega, true_and]
        · simp only [hh, show ¬ j < k + 1 by omega, false_and]
    | false =>
      simp only [Bool.false_eq_true, if_false]
      rw [getD_set, cellUpto_length]
      by_cases h : k = j
      · subst h
        rw [if_pos ⟨rfl, hj⟩, if_pos ⟨by omega, hu⟩, ih, if_neg (fun e => by omega)]
      · rw [if_neg (fun e => h e.1), ih]
        by_cases hh : j < k
        · simp only [hh, show j < k + 1 by omega, true_and]
        · simp only [hh, show ¬ j < k + 1 by omega, false_and]
theorem cells_bit (ps : List Ins) (j : Nat) (hj : j < ps.length) : ∀ m, m ≤ 16 → ∃ y : Nat, (cellsUpto ps m).getD j 0 = y ∧ y < 65536 ∧ ∀ c, c < 16 → y.testBit c = (decide (c < m) && !(uupto ps c j).getD j false)
  | 0, _ => ⟨0, by simp [cellsUpto, List.getD_eq_getElem?_getD, hj], by omega, fun c hc => by simp⟩
  | m + 1, hm => by
    obtain ⟨y, h1, h2, h3⟩ := cells_bit ps j hj m (by omega)
    rw [cellsUpto_succ, cell_get ps m _ j (by rw [cellsUpto_length]; exact hj), h1]
    have hp : 2 ^ m < 65536 := Nat.lt_of_lt_of_le (Nat.pow_lt_pow_right (by omega) (show m < 16 by omega)) (by decide)
    by_cases hu : (uupto ps m j).getD j false = false
    · rw [if_pos ⟨hj, hu⟩]
      refine ⟨y ||| 2 ^ m, or16 y (2 ^ m) h2 hp, Nat.or_lt_two_pow (n := 16) (by omega) (by omega), fun c hc => ?_⟩
      rw [Nat.testBit_or, h3 c hc, Nat.testBit_two_pow]
      by_cases e : m = c
      · subst e; rw [hu]; simp
      · by_cases hcm : c < m
        · simp [e, hcm, show c < m + 1 by omega]
        · simp [e, hcm, show ¬ c < m + 1 by omega]
    · rw [if_neg (fun e => hu e.2)]
      refine ⟨y, rfl, h2, fun c hc => ?_⟩
      rw [h3 c hc]
      by_cases e : m = c
      · subst e
        have : (uupto ps m j).getD j false = true := by simpa using hu
        rw [this]; simp
      · by_cases hcm : c < m
        · simp [hcm, show c < m + 1 by omega]
        · simp [hcm, show ¬ c < m + 1 by omega]
theorem sureT_bit (ps : List Ins) (hok : ∀ i ∈ ps, i.ok) (hn : ¬ 4096 < ps.length) (j : Nat) (hj : j < ps.length) : ∃ x : Nat, (sureT ps).getD j 0 = x ∧ x < 65536 ∧ ∀ c, c < 16 → x.testBit c = !(uupto ps c j).getD j false := by
  unfold sureT
  rw [if_neg hn, masks_get ps _ j hj, ← wupto_snd]
  have hl := (wupto_len ps j).2
  by_cases hr : (wupto ps j).2.getD j false = true
  · rw [if_pos ⟨hj, hr⟩]
    obtain ⟨x, h1, h2, _⟩ := (sure_bit ps hok 0 (by omega) j (by omega)).yes j (by omega) hr
    refine ⟨x, h1, h2, fun c hc => ?_⟩
    obtain ⟨x', g1, g2, g3⟩ := (sure_bit ps hok c hc j (by omega)).yes j (by omega) hr
    have : x = x' := by omega
    rw [this]; exact g3
  · rw [if_neg (fun e => hr e.2)]
    refine ⟨65535, rfl, by omega, fun c hc => ?_⟩
    have := (sure_bit ps hok c hc j (by omega)).no j (by omega) (by simpa using hr)
    rw [this, show (65535 : Nat) = 2 ^ 16 - 1 from rfl, Nat.testBit_two_pow_sub_one]
    simp [hc]
theorem eq_of_bits (x y : Nat) (hx : x < 65536) (hy : y < 65536) (h : ∀ c, c < 16 → x.testBit c = y.testBit c) : x = y := by
  refine Nat.eq_of_testBit_eq fun c => ?_
  by_cases hc : c < 16
  · exact h c hc
  · have p : (65536 : Nat) ≤ 2 ^ c := by
      have : (2 : Nat) ^ 16 ≤ 2 ^ c := Nat.pow_le_pow_right (by omega) (by omega)
      omega
    rw [Nat.testBit_lt_two_pow (by omega), Nat.testBit_lt_two_pow (by omega)]
theorem sure_same (ps : List Ins) (hok : ∀ i ∈ ps, i.ok) : sureT ps = sureL ps := by
  by_cases hn : 4096 < ps.length
  · unfold sureT sureL
    rw [if_pos hn, if_pos hn]
  · have hl : (sureT ps).length = ps.length := by unfold sureT; rw [if_neg hn, masksOf_len]
    refine ext_getD 0 (by rw [hl]; unfold sureL; rw [if_neg hn, cellsUpto_length]) fun j hj => ?_
    rw [hl] at hj
    obtain ⟨x, h1, h2, h3⟩ := sureT_bit ps hok hn j hj
    obtain ⟨y, g1, g2, g3⟩ := cells_bit ps j hj 16 (by omega)
    have e : sureL ps = cellsUpto ps 16 := by unfold sureL; rw [if_neg hn]
    rw [e, h1, g1, eq_of_bits x y h2 g2 (fun c hc => by rw [h3 c hc, g3 c hc]; simp [hc])]
end Go.Proofs.Ytkejcfbhikpibaa
