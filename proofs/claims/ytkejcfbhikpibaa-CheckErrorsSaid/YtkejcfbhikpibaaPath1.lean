import Derived.Test.YtkejcfbhikpibaaChk7
import Derived.Test.YtkejcfbhikpibaaHalt1
import Derived.Test.YtkejcfbhikpibaaVm13
import Derived.Test.YtkejcfbhikpibaaVm11
/- The places of a run lie on a way; what is sure at them was written: the plain law of CellsDone and CheckErrors. -/
namespace Go.Proofs.Ytkejcfbhikpibaa
open Go.RowKit
set_option linter.unusedVariables false
set_option linter.unusedSimpArgs false

theorem setAll_mono (j : Nat) : ∀ (ns : List Int) (l : List Bool), l.getD j false = true → (setAll l ns).getD j false = true
  | [], _, h => h
  | n :: ns, l, h => by
    show (setAll (l.set n.toNat true) ns).getD j false = true
    refine setAll_mono j ns _ ?_
    rw [getD_set]
    split
    · rfl
    · exact h
theorem setAll_mem (j : Nat) : ∀ (ns : List Int) (l : List Bool), j < l.length → (j : Int) ∈ ns → (setAll l ns).getD j false = true
  | [], _, _, h => by cases h
  | n :: ns, l, hj, h => by
    show (setAll (l.set n.toNat true) ns).getD j false = true
    by_cases e : n.toNat = j
    · refine setAll_mono j ns _ ?_
      rw [getD_set, if_pos ⟨e, hj⟩]
    · refine setAll_mem j ns _ (by simpa using hj) ?_
      rcases List.mem_cons.1 h with k | k
      · exact absurd (by rw [← k]; simp) e
      · exact k
theorem rupto_mono (ps : List Ins) (j k : Nat) : ∀ d, (rupto ps k).getD j false = true → (rupto ps (k + d)).getD j false = true
  | 0, h => h
  | d + 1, h => by
    rw [← Nat.add_assoc, rupto_succ]
    unfold rstep
    split
    · exact setAll_mono j _ _ (rupto_mono ps j k d h)
    · exact rupto_mono ps j k d h
theorem rupto_next (ps : List Ins) (a b : Nat) (hab : (b : Int) ∈ nextL ps a) (hb : b < ps.length) (hlt : a < b) (h : (rupto ps a).getD a false = true) : (rupto ps b).getD b false = true := by
  obtain ⟨d, rfl⟩ : ∃ d, b = (a + 1) + d := ⟨b - (a + 1), by omega⟩
  refine rupto_mono ps _ _ d ?_
  rw [rupto_succ]
  unfold rstep
  rw [if_pos h]
  exact setAll_mem _ _ _ (by rw [rupto_length]; exact hb) hab
theorem uupto_mono (ps : List Ins) (c j k : Nat) : ∀ d, (uupto ps c k).getD j false = true → (uupto ps c (k + d)).getD j false = true
  | 0, h => h
  | d + 1, h => by
    rw [← Nat.add_assoc, uupto_succ]
    unfold ustep
    split
    · split
      · exact uupto_mono ps c j k d h
      · exact setAll_mono j _ _ (uupto_mono ps c j k d h)
    · exact uupto_mono ps c j k d h
theorem uupto_next (ps : List Ins) (c a b : Nat) (hab : (b : Int) ∈ nextL ps a) (hb : b < ps.length) (hlt : a < b) (hs : skipC (ps.getD a zeroI) c = false) (h : (uupto ps c a).getD a false = true) : (uupto ps c b).getD b false = true := by
  obtain ⟨d, rfl⟩ : ∃ d, b = (a + 1) + d := ⟨b - (a + 1), by omega⟩
  refine uupto_mono ps c _ _ d ?_
  rw [uupto_succ]
  unfold ustep
  rw [if_pos h, if_neg (by rw [hs]; decide)]
  exact setAll_mem _ _ _ (by rw [uupto_length]; exact hb) hab

theorem zeroI_ok : zeroI.ok := ⟨by decide, by decide, by decide, by decide⟩
theorem getD_ok (ps : List Ins) (hok : ∀ i ∈ ps, i.ok) (k : Nat) : (ps.getD k zeroI).ok := by
  rw [List.getD_eq_getElem?_getD]
  by_cases h : k < ps.length
  · rw [List.getElem?_eq_getElem h]
    exact hok _ (List.getElem_mem h)
  · rw [List.getElem?_eq_none (by omega)]
    exact zeroI_ok
/-- Where a run goes on leads a way. -/
theorem step_next (d : Dat) (ps : List Ins) (hok : ∀ i ∈ ps, i.ok) (hn : ¬ 4096 < ps.length) (a : Nat) (ha : a < ps.length) (s : Vm) (he : (stepE d (ps.getD a zeroI) s).2.2 = 0) (ho : (stepE d (ps.getD a zeroI) s).1.over = false)
    (hb : a + (1 + (stepE d (ps.getD a zeroI) s).2.1.toNat) < ps.length) : ((a + (1 + (stepE d (ps.getD a zeroI) s).2.1.toNat) : Nat) : Int) ∈ nextL ps a := by
  have hi := getD_ok ps hok a
  unfold nextL
  rw [if_neg (by omega), Int.toNat_natCast]
  generalize ps.getD a zeroI = i at *
  have hs := (step_skip d i hi s).1
  unfold wayL
  have one : wayRaw i a = [(a : Int) + 1] → (stepE d i s).2.1 = 0 → ((a + (1 + (stepE d i s).2.1.toNat) : Nat) : Int) ∈ (wayRaw i a).takeWhile fun n => decide (n < (ps.length : Int)) := fun h h0 => by
    rw [h0] at hb ⊢
    rw [h, List.takeWhile_cons, if_pos (by simp; simp at hb; omega)]
    simp
  rcases class_any i.code with c | c | c | c | c | c | c
  · exfalso
    unfold stepE at he
    simp [c] at he
  · refine one (by unfold wayRaw; simp [c]) (by unfold stepE; simp [c])
  · refine one (by unfold wayRaw; simp [c]) (by unfold stepE; simp [c]; split <;> rfl)
  · refine one (by unfold wayRaw; simp [c]) (by unfold stepE; simp [c])
  · have hk : (stepE d i s).2.1 = jumpE i s := by unfold stepE; simp [c]
    rw [hk] at hb hs ⊢
    clear hk one he ho
    unfold wayRaw
    simp only [c]
    unfold jumpE at *
    by_cases h5 : i.code = 5
    · simp only [h5, if_true] at hb hs ⊢
      simp only [show ((4 : Int) == 0 || (4 : Int) == 5) = false from rfl, Bool.false_eq_true, if_false, show ((4 : Int) == 4) = true from rfl, if_true, show ((5 : Int) == 5) = true from rfl]
      rw [List.takeWhile_cons, if_pos (by simp; omega)]
      simp; omega
    · have h5' : (i.code == 5) = false := by simpa using h5
      simp only [h5, if_false] at hb hs ⊢
      simp only [show ((4 : Int) == 0 || (4 : Int) == 5) = false from rfl, Bool.false_eq_true, if_false, show ((4 : Int) == 4) = true from rfl, if_true, h5']
      have ht := hi.2.1.1
      have hf := hi.2.2.1.1
      have htt : (if hoE (byI i.code - 10) s.a (secondE i s) = true then i.jt else i.jf) = i.jt ∨ (if hoE (byI i.code - 10) s.a (secondE i s) = true then i.jt else i.jf) = i.jf := by
        split
        · exact .inl rfl
        · exact .inr rfl
      generalize (if hoE (byI i.code - 10) s.a (secondE i s) = true then i.jt else i.jf) = t at hb hs htt ⊢
      have e : ((a + (1 + t.toNat) : Nat) : Int) = (a : Int) + 1 + t := by omega
      rw [e]
      have hb' : (a : Int) + 1 + t < ps.length := by omega
      by_cases hj : i.jt = i.jf
      · have hj' : (i.jt == i.jf) = true := by simpa using hj
        simp only [hj', if_true]
        have hm : min i.jt i.jf = t := by omega
        rw [hm, List.takeWhile_cons, if_pos (by simpa using hb')]
        simp
      · have hj' : (i.jt == i.jf) = false := by simpa using hj
        simp only [hj', Bool.false_eq_true, if_false]
        have hmin : (a : Int) + 1 + min i.jt i.jf < ps.length := by omega
        rw [List.takeWhile_cons, if_pos (by simpa using hmin)]
        by_cases hm : t = min i.jt i.jf
        · rw [← hm]; simp
        · have hm2 : max i.jt i.jf = t := by omega
          rw [hm2, List.takeWhile_cons, if_pos (by simpa using hb')]
          simp
  · exfalso
    unfold stepE at ho
    simp [c] at ho
  · refine one (by unfold wayRaw; simp [c]) (by unfold stepE; simp [c])

structure Path (ps : List Ins) (tr : List Nat) : Prop where
  lt : ∀ k, k < tr.length → tr.getD k 0 < ps.length
  reach : ∀ k, k < tr.length → (rupto ps (tr.getD k 0)).getD (tr.getD k 0) false = true
  un : ∀ k, k < tr.length → ∀ c, (∀ j, j < k → skipC (ps.getD (tr.getD j 0) zeroI) c = false) → (uupto ps c (tr.getD k 0)).getD (tr.getD k 0) false = true
  next : ∀ k, k + 1 < tr.length → ((tr.getD (k + 1) 0 : Nat) : Int) ∈ nextL ps ((tr.getD k 0 : Nat) : Int)
/-- What holds of the place at which a run is. -/
structure At (ps : List Ins) (tr : List Nat) (a : Nat) : Prop where
  reach : (rupto ps a).getD a false = true
  un : ∀ c, (∀ j, j < tr.length → skipC (ps.getD (tr.getD j 0) zeroI) c = false) → (uupto ps c a).getD a false = true
  next : ∀ k, k + 1 = tr.length → (a : Int) ∈ nextL ps ((tr.getD k 0 : Nat) : Int)
theorem getD_app1 (tr : List Nat) (a k : Nat) (h : k < tr.length) : (tr ++ [a]).getD k 0 = tr.getD k 0 := by
  rw [List.getD_eq_getElem?_getD, List.getElem?_append_left h, ← List.getD_eq_getElem?_getD]
theorem getD_app2 (tr : List Nat) (a : Nat) : (tr ++ [a]).getD tr.length 0 = a := by
  rw [List.getD_eq_getElem?_getD, List.getElem?_append_right (Nat.le_refl _)]
  simp
theorem path_snoc (ps : List Ins) (tr : List Nat) (a : Nat) (h : Path ps tr) (ha : a < ps.length) (hA : At ps tr a) : Path ps (tr ++ [a]) := by
  have hl : (tr ++ [a]).length = tr.length + 1 := by simp
  refine ⟨fun k hk => ?_, fun k hk => ?_, fun k hk c hc => ?_, fun k hk => ?_⟩
  · by_cases e : k < tr.length
    · rw [getD_app1 _ _ _ e]; exact h.lt k e
    · obtain rfl : k = tr.length := by omega
      rw [getD_app2]; exact ha
  · by_cases e : k < tr.length
    · rw [getD_app1 _ _ _ e]; exact h.reach k e
    · obtain rfl : k = tr.length := by omega
      rw [getD_app2]; exact hA.reach
  · by_cases e : k < tr.length
    · rw [getD_app1 _ _ _ e]
      exact h.un k e c (fun j hj => by have := hc j hj; rwa [getD_app1 _ _ _ (by omega)] at this)
    · obtain rfl : k = tr.length := by omega
      rw [getD_app2]
      exact hA.un c (fun j hj => by have := hc j hj; rwa [getD_app1 _ _ _ hj] at this)
  · by_cases e : k + 1 < tr.length
    · rw [getD_app1 _ _ _ e, getD_app1 _ _ _ (by omega)]; exact h.next k e
    · have e2 : k + 1 = tr.length := by omega
      rw [e2, getD_app2, getD_app1 _ _ _ (by omega)]
      exact hA.next k e2
theorem runE_path (d : Dat) (ps : List Ins) (hok : ∀ i ∈ ps, i.ok) (hn : ¬ 4096 < ps.length) : ∀ (f a : Nat) (s : Vm) (beh : Int) (tr : List Nat), Path ps tr → (s.over = false → a < ps.length → At ps tr a) → Path ps (runE d ps f a s beh tr).tr
  | 0, _, _, _, _, h, _ => h
  | f + 1, a, s, beh, tr, h, hA => by
    unfold runE
    split
    · exact h
    rename_i ho
    split
    · rename_i ha
      have hAt := hA (by simpa using ho) ha
      have hP := path_snoc ps tr a h ha hAt
      split
      · rename_i he
        refine runE_path d ps hok hn f _ _ _ _ hP fun ho2 hb => ?_
        have hnx := step_next d ps hok hn a ha s he ho2 hb
        have hbd := (nextL_bd ps hok _ _ hnx).1
        have hab : a < a + (1 + (stepE d (ps.getD a zeroI) s).2.1.toNat) := by omega
        refine ⟨rupto_next ps a _ hnx hb hab hAt.reach, fun c hc => uupto_next ps c a _ hnx hb hab ?_ (hAt.un c fun j hj => ?_), fun k hk => ?_⟩
        · have := hc tr.length (by simp)
          rwa [getD_app2] at this
        · have := hc j (by simp; omega)
          rwa [getD_app1 _ _ _ hj] at this
        · obtain rfl : k = tr.length := by simp at hk; omega
          rw [getD_app2]
          exact hnx
      · exact hP
    · exact h
theorem run_path (d : Dat) (ps : List Ins) (hok : ∀ i ∈ ps, i.ok) (hn : ¬ 4096 < ps.length) : Path ps (runR d ps).tr := by
  refine runE_path d ps hok hn _ _ _ _ _ ⟨fun k h => by simp at h, fun k h => by simp at h, fun k h => by simp at h, fun k h => by simp at h⟩ fun _ hl => ?_
  refine ⟨?_, fun c _ => ?_, fun k h => by simp at h⟩
  · simp [rupto, rstart, List.getD_eq_getElem?_getD, hl]
  · simp [uupto, rstart, List.getD_eq_getElem?_getD, hl]

/-- Which cells an instruction writes; which were written ahead of a step. -/
def wrN (i : Ins) : Nat := if (i.code == 2 || i.code == 3) && decide (i.k < 16) then 2 ^ i.k.toNat else 0
def wrote (ps : List Ins) (tr : List Nat) (k : Nat) : Nat := (List.range k).foldl (fun m j => m ||| wrN (ps.getD (tr.getD j 0) zeroI)) 0
theorem wrote_succ (ps : List Ins) (tr : List Nat) (k : Nat) : wrote ps tr (k + 1) = wrote ps tr k ||| wrN (ps.getD (tr.getD k 0) zeroI) := by simp [wrote, List.range_succ, List.foldl_append]
theorem wrN_lt (i : Ins) (hi : i.ok) : wrN i < 65536 := by
  have k0 : 0 ≤ i.k := hi.2.2.2.1
  unfold wrN
  split
  · rename_i h
    simp at h
    exact Nat.lt_of_lt_of_le (Nat.pow_lt_pow_right (by omega) (show i.k.toNat < 16 by omega)) (by decide)
  · omega
theorem wrN_bit (i : Ins) (hi : i.ok) (c : Nat) (hc : c < 16) : (wrN i).testBit c = skipC i c := by
  obtain ⟨x, h1, _, h3⟩ := wr_bit i hi c hc
  have e : wrM i = wrN i := by
    unfold wrM wrN
    rw [cls_store]
    split
    · rw [Int.natCast_pow]; rfl
    · rfl
  have : wrN i = x := by omega
  rw [this, h3]
theorem wrote_lt (ps : List Ins) (hok : ∀ i ∈ ps, i.ok) (tr : List Nat) : ∀ k, wrote ps tr k < 65536
  | 0 => by simp [wrote]
  | k + 1 => by
    rw [wrote_succ]
    exact Nat.or_lt_two_pow (n := 16) (wrote_lt ps hok tr k) (wrN_lt _ (getD_ok ps hok _))
theorem wrote_no (ps : List Ins) (hok : ∀ i ∈ ps, i.ok) (tr : List Nat) (c : Nat) (hc : c < 16) : ∀ k, (wrote ps tr k).testBit c = false → ∀ j, j < k → skipC (ps.getD (tr.getD j 0) zeroI) c = false
  | 0, _, j, hj => by omega
  | k + 1, h, j, hj => by
    rw [wrote_succ, Nat.testBit_or, wrN_bit _ (getD_ok ps hok _) c hc] at h
    simp at h
    by_cases e : j < k
    · exact wrote_no ps hok tr c hc k h.1 j e
    · obtain rfl : j = k := by omega
      exact h.2
theorem andNot_zero (x y : Nat) (hx : x < 65536) (h : ∀ c, c < 16 → x.testBit c = true → y.testBit c = true) : bits .andNot .u16 (x : Int) (y : Int) = 0 := by
  have hl := ((BitVec.ofInt 16 (x : Int)) &&& ~~~ (BitVec.ofInt 16 (y : Int))).isLt
  have hb : bits .andNot .u16 (x : Int) (y : Int) = ((((BitVec.ofInt 16 (x : Int)) &&& ~~~ (BitVec.ofInt 16 (y : Int))).toNat : Nat) : Int) := by
    show IntKind.u16.wrap ((((BitVec.ofInt 16 (x : Int)) &&& ~~~ (BitVec.ofInt 16 (y : Int))).toNat : Nat) : Int) = _
    exact IntWalk.u16_in _ (by omega)
  have h0 : ((BitVec.ofInt 16 (x : Int)) &&& ~~~ (BitVec.ofInt 16 (y : Int))).toNat = 0 := eq_of_bits _ _ (by omega) (by omega) (fun c hc => by
    rw [andNot_bit x y c hc, Nat.zero_testBit]
    cases hx : x.testBit c
    · rfl
    · rw [h c hc hx]; rfl)
  rw [hb, h0]
  rfl
theorem path_sure (ps : List Ins) (hok : ∀ i ∈ ps, i.ok) (hn : ¬ 4096 < ps.length) (tr : List Nat) (h : Path ps tr) (k : Nat) (hk : k < tr.length) :
    ∃ x : Nat, (sureT ps).getD (tr.getD k 0) 0 = x ∧ x < 65536 ∧ bits .andNot .u16 (x : Int) (wrote ps tr k) = 0 := by
  obtain ⟨x, h1, h2, h3⟩ := sureT_bit ps hok hn (tr.getD k 0) (h.lt k hk)
  refine ⟨x, h1, h2, andNot_zero x _ h2 fun c hc hx => ?_⟩
  cases hw : (wrote ps tr k).testBit c
  · have := h.un k hk c (wrote_no ps hok tr c hc k hw)
    rw [h3 c hc, this] at hx
    cases hx
  · rfl
theorem path_reach (ps : List Ins) (hok : ∀ i ∈ ps, i.ok) (hn : ¬ 4096 < ps.length) (tr : List Nat) (h : Path ps tr) (k : Nat) (hk : k < tr.length) : (reachT ps).getD (tr.getD k 0) false = true := by
  rw [reach_same ps hok, reach_get ps hok hn _ (h.lt k hk)]
  exact h.reach k hk
/-- Did a run read a cell that was not written? -/
def unsetAt (ps : List Ins) (tr : List Nat) (k : Nat) : Bool := rdb (ps.getD (tr.getD k 0) zeroI) && !(wrote ps tr k).testBit (ps.getD (tr.getD k 0) zeroI).k.toNat
def unsetN (ps : List Ins) (tr : List Nat) (k : Nat) : Bool := (List.range k).any (unsetAt ps tr)
theorem unsetN_succ (ps : List Ins) (tr : List Nat) (k : Nat) : unsetN ps tr (k + 1) = (unsetN ps tr k || unsetAt ps tr k) := by simp [unsetN, List.range_succ]
theorem taken_bad (ps : List Ins) (hok : ∀ i ∈ ps, i.ok) (h : Taken ps) (j : Nat) (hj : j < ps.length) : badR (ps.getD j zeroI) ((reachL ps).getD j false) ((sureL ps).getD j 0) = false := by
  have hu := h.un
  unfold unsureL unU at hu
  rw [List.filterMap_eq_nil_iff] at hu
  have hl : (sureL ps).length = ps.length := by rw [← sure_same ps hok]; unfold sureT; rw [if_neg (by have := h.l2; omega), masksOf_len]
  have := hu j (by rw [hl]; exact List.mem_range.2 hj)
  cases hb : badR (ps.getD j zeroI) ((reachL ps).getD j false) ((sureL ps).getD j 0)
  · rfl
  · rw [hb] at this; simp at this
theorem taken_set (ps : List Ins) (hok : ∀ i ∈ ps, i.ok) (ht : Taken ps) (tr : List Nat) (h : Path ps tr) : unsetN ps tr tr.length = false := by
  have hn : ¬ 4096 < ps.length := by have := ht.l2; omega
  unfold unsetN
  rw [List.any_eq_false]
  intro k hk
  have hk : k < tr.length := List.mem_range.1 hk
  intro hun
  unfold unsetAt at hun
  simp only [Bool.and_eq_true, Bool.not_eq_true'] at hun
  obtain ⟨hr, hw⟩ := hun
  have hb := taken_bad ps hok ht (tr.getD k 0) (h.lt k hk)
  unfold badR at hb
  rw [← reach_same ps hok, path_reach ps hok hn tr h k hk, hr] at hb
  obtain ⟨x, h1, h2, h3⟩ := sureT_bit ps hok hn (tr.getD k 0) (h.lt k hk)
  rw [← sure_same ps hok, h1] at hb
  have hi := getD_ok ps hok (tr.getD k 0)
  generalize ps.getD (tr.getD k 0) zeroI = i at *
  have k0 : 0 ≤ i.k := hi.2.2.2.1
  have hk16 : i.k.toNat < 16 := by
    unfold rdb at hr
    simp at hr
    omega
  have hu := h.un k hk i.k.toNat (wrote_no ps hok tr _ hk16 k hw)
  have hx := h3 _ hk16
  rw [hu] at hx
  have : (x : Int) / 2 ^ i.k.toNat % 2 = 0 := by
    have h0 : x / 2 ^ i.k.toNat % 2 = 0 := by
      rw [Nat.testBit_eq_decide_div_mod_eq] at hx
      simp at hx
      omega
    have e : ((x / 2 ^ i.k.toNat % 2 : Nat) : Int) = (x : Int) / 2 ^ i.k.toNat % 2 := by
      rw [show ((2 : Int) ^ i.k.toNat) = ((2 ^ i.k.toNat : Nat) : Int) by simp]
      generalize 2 ^ i.k.toNat = q
      omega
    rw [← e, h0]; rfl
  rw [this] at hb
  simp at hb
end Go.Proofs.Ytkejcfbhikpibaa
