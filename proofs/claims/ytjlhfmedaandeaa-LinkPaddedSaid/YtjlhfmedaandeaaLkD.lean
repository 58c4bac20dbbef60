import Derived.Test.YtjlhfmedaandeaaLkB
import Derived.Test.YtjlhfmedaandeaaLkC
import Derived.Test.YtjlhfmedaandeaaCode3
import Derived.Test.YtjlhfmedaandeaaPrg
/- The linker's places are the document's sizes: plain law. -/
namespace Go.Proofs.Ytjlhfmedaandeaa
open Go.RowKit
set_option linter.unusedVariables false
set_option linter.unusedSimpArgs false

theorem dsum_split (sz : List Int) (lo a : Nat) : ∀ b, dsum sz lo (a + b) = dsum sz lo a + dsum sz (lo + a) b
  | 0 => by simp [dsum]
  | b + 1 => by
    show dsum sz lo (a + b) + sz.getD (lo + (a + b)) 0 = dsum sz lo a + (dsum sz (lo + a) b + sz.getD (lo + a + b) 0)
    rw [dsum_split sz lo a b, Nat.add_assoc lo a b, Int.add_assoc]
theorem dsum_front (sz : List Int) (lo k : Nat) : dsum sz lo (k + 1) = sz.getD lo 0 + dsum sz (lo + 1) k := by
  rw [Nat.add_comm k 1, dsum_split]
  simp [dsum]
/-- The linker's state, told by the document's sizes. -/
structure Told (n k : Nat) (st : LSt) (sz : List Int) : Prop where
  hb : (st.bk.length : Int) = dsum sz (n - k) k
  hp : ∀ t, n - k ≤ t → t < n → st.pl.getD t 0 = dsum sz t (n - t)
  l1 : st.pl.length = n
  l2 : sz.length = n
theorem told_dist {n k : Nat} {st : LSt} {sz : List Int} (h : Told n k st sz) (i : Nat) (hi : i + 1 = n - k) (hk : k < n) (t : Nat) (h1 : i < t) (h2 : t < n) : dist st.bk.length st.pl t = dsum sz (i + 1) (t - (i + 1)) := by
  unfold dist
  rw [Int.toNat_natCast, h.hb, h.hp t (by omega) h2, ← hi]
  have := dsum_split sz (i + 1) (t - (i + 1)) (n - t)
  rw [show t - (i + 1) + (n - t) = k by omega, show i + 1 + (t - (i + 1)) = t by omega] at this
  omega
theorem told_one {n k : Nat} {st : LSt} {sz : List Int} (h : Told n k st sz) (ps : List Sy) (i : Nat) (hi : i + 1 = n - k) (hk : k < n) (hK : Kind (ps.getD i zeroS) i n) :
    ((oneL st.bk.length st.pl (ps.getD i zeroS)).1.length : Int) = szOf ps sz i ∧ (oneL st.bk.length st.pl (ps.getD i zeroS)).2 = if szOf ps sz i = 3 then 1 else 0 := by
  unfold szOf oneL
  generalize ps.getD i zeroS = s at *
  rcases hK with ⟨q, _, _, _⟩ | ⟨q, _, _⟩ | ⟨q, _, _⟩ | ⟨q, _, _, _⟩ | ⟨q, q1, q2⟩
  · rw [q]; exact ⟨rfl, rfl⟩
  · rw [q]; exact ⟨rfl, rfl⟩
  · rw [q]; exact ⟨rfl, rfl⟩
  · rw [q]; exact ⟨rfl, rfl⟩
  · obtain ⟨t, ht⟩ : ∃ t : Nat, s.th = t := ⟨s.th.toNat, by omega⟩
    obtain ⟨u, hu⟩ : ∃ u : Nat, s.el = u := ⟨s.el.toNat, by omega⟩
    have hA : asksC s.code = true := by rcases q with q | q | q | q <;> rw [q] <;> rfl
    have h5 : s.code ≠ 5 := by omega
    rw [ht, hu, told_dist h i hi hk t (by omega) (by omega), told_dist h i hi hk u (by omega) (by omega), Int.toNat_natCast, Int.toNat_natCast, hA, if_neg h5, if_neg (by decide), Bool.true_and]
    generalize dsum sz (i + 1) (t - (i + 1)) = d1
    generalize dsum sz (i + 1) (u - (i + 1)) = d2
    by_cases near : max d1 d2 ≤ 255
    · have e : (decide (255 < d1) || decide (255 < d2)) = false := by simp; omega
      rw [if_pos near, e]
      exact ⟨rfl, rfl⟩
    · have e : (decide (255 < d1) || decide (255 < d2)) = true := by simp; omega
      rw [if_neg near, e]
      exact ⟨rfl, rfl⟩
theorem told_step {n k : Nat} {st : LSt} {sz : List Int} (h : Told n k st sz) (ps : List Sy) (i : Nat) (hi : i + 1 = n - k) (hk : k < n) (hK : Kind (ps.getD i zeroS) i n) : Told n (k + 1) (lstep ps st i) (szStep ps sz i) := by
  have ho := (told_one h ps i hi hk hK).1
  unfold lstep szStep
  generalize oneL st.bk.length st.pl (ps.getD i zeroS) = o at *
  generalize szOf ps sz i = z at *
  have hget : (sz.set i z).getD i 0 = z := by rw [List.getD_eq_getElem?_getD, List.getElem?_set_self (by rw [h.l2]; omega)]; rfl
  have hnew : (((st.bk ++ o.1.reverse).length : Nat) : Int) = dsum (sz.set i z) i (k + 1) := by
    rw [dsum_front, hget, dsum_set sz i z (i + 1) (by omega), List.length_append, List.length_reverse, hi, ← h.hb]
    omega
  refine ⟨?_, fun t h1 h2 => ?_, ?_, by rw [List.length_set]; exact h.l2⟩
  · dsimp only
    rw [show n - (k + 1) = i by omega]
    exact hnew
  · dsimp only
    by_cases e : i = t
    · subst e
      rw [List.getD_eq_getElem?_getD, List.getElem?_set_self (by rw [h.l1]; omega), show n - i = k + 1 by omega, ← hnew]
      rfl
    · rw [List.getD_eq_getElem?_getD, List.getElem?_set_ne e, ← List.getD_eq_getElem?_getD, h.hp t (by omega) h2, dsum_set sz i z t (by omega)]
  · dsimp only
    rw [List.length_set]
    exact h.l1
theorem told_upto (ps : List Sy) (hm : MayL ps) : ∀ k, k ≤ ps.length → Told ps.length k (lst ps ((List.range ps.length).reverse.take k)) (szUp ps ((List.range ps.length).reverse.take k))
  | 0, _ => ⟨by simp [lst, dsum], fun t h1 h2 => by omega, by simp [lst], by simp [szUp]⟩
  | k + 1, hk => by
    have ih := told_upto ps hm k (by omega)
    have hs := back_step ps.length (ps.length - (k + 1)) (by omega)
    rw [show ps.length - (ps.length - (k + 1)) = k + 1 by omega, show ps.length - (ps.length - (k + 1) + 1) = k by omega] at hs
    rw [hs, lst_snoc, szUp_snoc]
    exact told_step ih ps _ (by omega) (by omega) (kind_of (hm.one _ (by omega)))
def ind (sz : List Int) : List Int := sz.map fun x => if x = 3 then 1 else 0
theorem ind_set (sz : List Int) (i : Nat) (z : Int) : ind (sz.set i z) = (ind sz).set i (if z = 3 then 1 else 0) := by simp [ind, List.map_set]
theorem told_far (ps : List Sy) (hm : MayL ps) : ∀ k, k ≤ ps.length → (lst ps ((List.range ps.length).reverse.take k)).far = dsum (ind (szUp ps ((List.range ps.length).reverse.take k))) (ps.length - k) k
  | 0, _ => by simp [lst, dsum]
  | k + 1, hk => by
    have ih := told_far ps hm k (by omega)
    have hT := told_upto ps hm k (by omega)
    have hs := back_step ps.length (ps.length - (k + 1)) (by omega)
    rw [show ps.length - (ps.length - (k + 1)) = k + 1 by omega, show ps.length - (ps.length - (k + 1) + 1) = k by omega] at hs
    rw [hs, lst_snoc, szUp_snoc]
    have ho := (told_one hT ps (ps.length - (k + 1)) (by omega) (by omega) (kind_of (hm.one _ (by omega)))).2
    unfold lstep szStep
    dsimp only
    rw [ho, ih, ind_set, dsum_front, dsum_set _ _ _ _ (by omega), List.getD_eq_getElem?_getD, List.getElem?_set_self (by unfold ind; rw [List.length_map, hT.l2]; omega), show ps.length - (k + 1) + 1 = ps.length - k by omega]
    simp only [Option.getD_some]
    omega
theorem far_same (ps : List Sy) (hm : MayL ps) : (lall ps).far = dsum (ind (szUp ps (List.range ps.length).reverse)) 0 ps.length := by
  have h := told_far ps hm ps.length (Nat.le_refl _)
  rw [List.take_of_length_le (by simp), Nat.sub_self] at h
  exact h
end Go.Proofs.Ytjlhfmedaandeaa

/- The linker's program is the document's: plain law. -/
namespace Go.Proofs.Ytjlhfmedaandeaa
open Go.RowKit
set_option linter.unusedVariables false
set_option linter.unusedSimpArgs false

/-- What the document makes of an instruction. -/
def insR (ps : List Sy) (sz : List Int) (i : Nat) : List Ins :=
  if (ps.getD i zeroS).code = 5 then [⟨5, 0, 0, dsum sz (i + 1) ((ps.getD i zeroS).th.toNat - (i + 1))⟩]
  else if asksC (ps.getD i zeroS).code = false then [⟨(ps.getD i zeroS).code, 0, 0, (ps.getD i zeroS).k⟩]
  else if sz.getD i 0 = 1 then [⟨(ps.getD i zeroS).code, dsum sz (i + 1) ((ps.getD i zeroS).th.toNat - (i + 1)), dsum sz (i + 1) ((ps.getD i zeroS).el.toNat - (i + 1)), (ps.getD i zeroS).k⟩]
  else [⟨(ps.getD i zeroS).code, 0, 1, (ps.getD i zeroS).k⟩, ⟨5, 0, 0, dsum sz (i + 1) ((ps.getD i zeroS).th.toNat - (i + 1)) + 1⟩, ⟨5, 0, 0, dsum sz (i + 1) ((ps.getD i zeroS).el.toNat - (i + 1))⟩]
theorem insR_set (ps : List Sy) (sz : List Int) (j i : Nat) (v : Int) (h : j < i) : insR ps (sz.set j v) i = insR ps sz i := by
  unfold insR
  simp only [dsum_set sz j v (i + 1) (by omega)]
  have e : (sz.set j v).getD i 0 = sz.getD i 0 := by rw [List.getD_eq_getElem?_getD, List.getElem?_set_ne (by omega), ← List.getD_eq_getElem?_getD]
  rw [e]
theorem told_ins {n k : Nat} {st : LSt} {sz : List Int} (h : Told n k st sz) (ps : List Sy) (i : Nat) (hi : i + 1 = n - k) (hk : k < n) (hK : Kind (ps.getD i zeroS) i n) : (oneL st.bk.length st.pl (ps.getD i zeroS)).1 = insR ps (szStep ps sz i) i := by
  have hget : (szStep ps sz i).getD i 0 = szOf ps sz i := by
    unfold szStep
    rw [List.getD_eq_getElem?_getD, List.getElem?_set_self (by rw [h.l2]; omega)]
    rfl
  have hds : ∀ q, dsum (szStep ps sz i) (i + 1) q = dsum sz (i + 1) q := fun q => dsum_set sz i _ (i + 1) (by omega) q
  unfold insR oneL
  rw [hget]
  simp only [hds]
  unfold szOf
  generalize ps.getD i zeroS = s at *
  rcases hK with ⟨q, _, _, _⟩ | ⟨q, _, _⟩ | ⟨q, _, _⟩ | ⟨q, _, _, q1⟩ | ⟨q, q1, q2⟩
  · rw [q]; rfl
  · rw [q]; rfl
  · rw [q]; rfl
  · obtain ⟨t, ht⟩ : ∃ t : Nat, s.th = t := ⟨s.th.toNat, by omega⟩
    rw [ht, told_dist h i hi hk t (by omega) (by omega), Int.toNat_natCast, if_pos q, if_pos q]
  · obtain ⟨t, ht⟩ : ∃ t : Nat, s.th = t := ⟨s.th.toNat, by omega⟩
    obtain ⟨u, hu⟩ : ∃ u : Nat, s.el = u := ⟨s.el.toNat, by omega⟩
    have hA : asksC s.code = true := by rcases q with q | q | q | q <;> rw [q] <;> rfl
    have h5 : s.code ≠ 5 := by omega
    rw [ht, hu, told_dist h i hi hk t (by omega) (by omega), told_dist h i hi hk u (by omega) (by omega), Int.toNat_natCast, Int.toNat_natCast, hA, if_neg h5, if_neg h5, Bool.true_and]
    have tf : ¬ (true = false) := by decide
    simp only [if_neg tf]
    generalize dsum sz (i + 1) (t - (i + 1)) = d1
    generalize dsum sz (i + 1) (u - (i + 1)) = d2
    by_cases near : max d1 d2 ≤ 255
    · have e : (decide (255 < d1) || decide (255 < d2)) = false := by simp; omega
      rw [if_pos near, e]
      rfl
    · have e : (decide (255 < d1) || decide (255 < d2)) = true := by simp; omega
      rw [if_neg near, e]
      rfl
/-- The program's instructions from a place on. -/
def fromR (ps : List Sy) (sz : List Int) (lo : Nat) : Nat → List Ins
  | 0 => []
  | k + 1 => insR ps sz lo ++ fromR ps sz (lo + 1) k
theorem fromR_set (ps : List Sy) (sz : List Int) (j : Nat) (v : Int) : ∀ (k lo : Nat), j < lo → fromR ps (sz.set j v) lo k = fromR ps sz lo k
  | 0, _, _ => rfl
  | k + 1, lo, h => by
    unfold fromR
    rw [insR_set ps sz j lo v h, fromR_set ps sz j v k (lo + 1) (by omega)]
theorem told_prog (ps : List Sy) (hm : MayL ps) : ∀ k, k ≤ ps.length → (lst ps ((List.range ps.length).reverse.take k)).bk.reverse = fromR ps (szUp ps ((List.range ps.length).reverse.take k)) (ps.length - k) k
  | 0, _ => by simp [lst, fromR]
  | k + 1, hk => by
    have ih := told_prog ps hm k (by omega)
    have hT := told_upto ps hm k (by omega)
    have hs := back_step ps.length (ps.length - (k + 1)) (by omega)
    rw [show ps.length - (ps.length - (k + 1)) = k + 1 by omega, show ps.length - (ps.length - (k + 1) + 1) = k by omega] at hs
    rw [hs, lst_snoc, szUp_snoc]
    have ho := told_ins hT ps (ps.length - (k + 1)) (by omega) (by omega) (kind_of (hm.one _ (by omega)))
    unfold lstep
    dsimp only
    rw [List.reverse_append, List.reverse_reverse, ih, ho]
    show _ = insR ps (szStep ps (szUp ps (List.take k (List.range ps.length).reverse)) (ps.length - (k + 1))) (ps.length - (k + 1)) ++ fromR ps (szStep ps (szUp ps (List.take k (List.range ps.length).reverse)) (ps.length - (k + 1))) (ps.length - (k + 1) + 1) k
    rw [show ps.length - (k + 1) + 1 = ps.length - k by omega]
    congr 1
    unfold szStep
    rw [fromR_set ps _ _ _ k _ (by omega)]
theorem prog_same (ps : List Sy) (hm : MayL ps) : (lall ps).bk.reverse = fromR ps (szUp ps (List.range ps.length).reverse) 0 ps.length := by
  have h := told_prog ps hm ps.length (Nat.le_refl _)
  rw [List.take_of_length_le (by simp), Nat.sub_self] at h
  exact h
theorem len_same (ps : List Sy) (hm : MayL ps) : ((lall ps).bk.length : Int) = dsum (szUp ps (List.range ps.length).reverse) 0 ps.length := by
  have h := (told_upto ps hm ps.length (Nat.le_refl _)).hb
  rw [List.take_of_length_le (by simp), Nat.sub_self] at h
  exact h
end Go.Proofs.Ytjlhfmedaandeaa

/- vestibuleref27.Far. -/
namespace Go.Proofs.Ytjlhfmedaandeaa
open Go.RowKit Go.ChangeShapes Go.WideShapes
set_option linter.unusedVariables false
set_option linter.unusedSimpArgs false

set_option maxHeartbeats 1000000 in
set_option maxRecDepth 100000 in
theorem refFar27 (A : Option Addr) (n c : Nat) (ps : List Sy) (w : World) (hp : ps.length = n) (hok : ∀ i ∈ ps, i.ok) (hn : n ≤ maxLen) (hM : InM w A (sc ps)) :
    Calls Try.prog 22 #[.slice A n c] w fun e w' => e = .returned (.int .i64 (farT ps)) ∧ Ext w w' := by
  have H := Lib.hid (refMay25 A n c ps w hp hok hn hM)
  cases hmay : mayL ps with
  | false =>
    have hf : farT ps = 0 := by unfold farT; rw [hmay]; rfl
    rw [hf]
    rw [hmay] at H
    clear hp hok hn hM hmay hf
    go_enter Try.func22, Try.ntmps22
    go_wp2_with fail
    refine H.out.mono ?_
    rintro e w1 ⟨rfl, hx1⟩
    go_wp2_with fail
    go_ret
    exact ⟨rfl, hx1⟩
  | true =>
    have hY := mayL_of hmay
    have hf : farT ps = dsum (ind (szUp ps (List.range n).reverse)) 0 n := by unfold farT; rw [hmay, if_pos rfl, far_same ps hY, hp]
    rw [hf]
    rw [hmay] at H
    have HS := Lib.hid (fun W hW => refSizes A n c ps W hp hY hW)
    have HM := Lib.hid hM
    have n2 : n ≤ 131072 := by have := hY.l2; omega
    have hl := (szUp_bd ps (List.range n).reverse).2
    rw [hp] at hl
    generalize szUp ps (List.range n).reverse = sz at *
    have HL := Lib.hid hl
    have HB := Lib.hid (dsum_bd (ind sz) (fun x hx => by
      obtain ⟨y, _, rfl⟩ := List.mem_map.1 hx
      split <;> omega) 0)
    clear hp hok hn hM hmay hf hY hl
    go_enter Try.func22, Try.ntmps22
    go_wp2_with fail
    refine H.out.mono ?_
    rintro e w1 ⟨rfl, hx1⟩
    go_wp2_with fail
    refine (HS.out _ (HM.out.ext hx1)).mono ?_
    rintro e w2 ⟨rfl, hb2, hx2⟩
    have hx := hx1.trans hx2
    generalize w1.heap.size = g at *
    clear hx1 hx2 H HS
    go_wp2_with fail
    go_loopw [4, 5] (fun s it W => ∃ k : Nat, k ≤ n ∧ s = .int .i64 (dsum (ind sz) 0 k) ∧ it = .int .i64 k ∧ Ext w2 W) (fun _ it _ => n - (intOf it).toNat)
    case atStart => exact ⟨0, Nat.zero_le _, rfl, rfl, Ext.refl _⟩
    case round =>
      obtain ⟨k, hk, rfl, rfl, hy⟩ := hrel
      by_cases hlt : k < n
      · have hkl : k < sz.length := by rw [HL.out]; exact hlt
        have c1 := ((hb2.ext hy).cell k).trans (show ((nums .i64 sz).toArray)[k]? = some (.int .i64 sz[k]) from by rw [List.getElem?_toArray, nums_at hkl])
        have hst : dsum (ind sz) 0 (k + 1) = dsum (ind sz) 0 k + if sz[k] = 3 then 1 else 0 := by
          show dsum (ind sz) 0 k + (ind sz).getD (0 + k) 0 = _
          rw [Nat.zero_add, List.getD_eq_getElem?_getD]
          unfold ind
          rw [List.getElem?_map, List.getElem?_eq_getElem hkl]
          rfl
        have hd := HB.out k
        have hk3 : (k : Int) ≤ 131072 := by omega
        have k1 : (0 : Int) ≤ k := by omega
        have k2 : (k : Int) < n := by omega
        generalize sz[k] = z at *
        generalize dsum (ind sz) 0 k = d at *
        have w3 : IntKind.i64.wrap (d + 1) = d + 1 := IntWalk.i64_in _ (by omega)
        have HST := Lib.hid hst
        clear hst hd
        rcases hz : (z == 3) with _ | _
        · have hz2 : ¬ z = 3 := by simpa using hz
          have HZ := Lib.hid hz2
          clear hz2
          go_wp2_with fail
          go_roundw
          case rel => exact ⟨k + 1, by omega, by rw [HST.out, if_neg HZ.out, Int.add_zero], by go_num, hy⟩
          case measure => simp [intOf]; omega
        · have hz2 : z = 3 := by simpa using hz
          have HZ := Lib.hid hz2
          clear hz2
          go_wp2_with fail
          go_roundw
          case rel => exact ⟨k + 1, by omega, by rw [HST.out, if_pos HZ.out], by go_num, hy⟩
          case measure => simp [intOf]; omega
      · obtain rfl : k = n := by omega
        go_wp2_with fail
        go_ret
        exact ⟨rfl, hx.trans hy⟩
end Go.Proofs.Ytjlhfmedaandeaa

/- vestibuleref27.Link. -/
namespace Go.Proofs.Ytjlhfmedaandeaa
open Go.RowKit Go.ChangeShapes Go.WideShapes
set_option linter.unusedVariables false
set_option linter.unusedSimpArgs false

theorem fromR_snoc (ps : List Sy) (sz : List Int) : ∀ (k lo : Nat), fromR ps sz lo (k + 1) = fromR ps sz lo k ++ insR ps sz (lo + k)
  | 0, lo => by simp [fromR]
  | k + 1, lo => by
    have ih := fromR_snoc ps sz k (lo + 1)
    show insR ps sz lo ++ fromR ps sz (lo + 1) (k + 1) = insR ps sz lo ++ fromR ps sz (lo + 1) k ++ insR ps sz (lo + (k + 1))
    rw [ih, List.append_assoc, show lo + 1 + k = lo + (k + 1) by omega]
theorem insR_len (ps : List Sy) (sz : List Int) (i : Nat) : (insR ps sz i).length ≤ 3 := by
  unfold insR
  (repeat' split) <;> simp
theorem fromR_len (ps : List Sy) (sz : List Int) : ∀ (k lo : Nat), (fromR ps sz lo k).length ≤ 3 * k
  | 0, _ => by simp [fromR]
  | k + 1, lo => by
    rw [fromR_snoc, List.length_append]
    have := fromR_len ps sz k lo
    have := insR_len ps sz (lo + k)
    omega
set_option maxRecDepth 100000 in
theorem refLinkNo (A : Option Addr) (n c : Nat) (ps : List Sy) (w : World) (hp : ps.length = n) (hok : ∀ i ∈ ps, i.ok) (hn : n ≤ maxLen) (hM : InM w A (sc ps)) (h : mayL ps = false) :
    Calls Try.prog 18 #[.slice A n c] w fun e w' => e = .returned (.tuple #[.slice none 0 0, .int .i64 250]) ∧ Ext w w' := by
  have H := Lib.hid (refMay25 A n c ps w hp hok hn hM)
  rw [h] at H
  clear hp hok hn hM h
  go_enter Try.func18, Try.ntmps18
  go_wp2_with fail
  refine H.out.mono ?_
  rintro e w1 ⟨rfl, hx1⟩
  go_wp2_with fail
  go_ret2
  exact ⟨rfl, hx1⟩
set_option maxRecDepth 100000 in
theorem refLinkBig (A : Option Addr) (n c : Nat) (ps : List Sy) (w : World) (hp : ps.length = n) (hok : ∀ i ∈ ps, i.ok) (hM : InM w A (sc ps)) (h : mayL ps = true) (hb : 4096 < (lall ps).bk.length) :
    Calls Try.prog 18 #[.slice A n c] w fun e w' => e = .returned (.tuple #[.slice none 0 0, .int .i64 270]) ∧ Ext w w' := by
  have hY := mayL_of h
  have n2 : n ≤ 131072 := by have := hY.l2; omega
  have H := Lib.hid (refMay25 A n c ps w hp hok (by unfold maxLen; omega) hM)
  rw [h] at H
  have HS := Lib.hid (fun W hW => refSizes A n c ps W hp hY hW)
  have HM := Lib.hid hM
  have hl := len_same ps hY
  rw [hp] at hl
  obtain ⟨hz, hzl⟩ := szUp_bd ps (List.range n).reverse
  rw [hp] at hzl
  have HD := Lib.hid (fun g W (hW : Blk W g 3 (nums .i64 (szUp ps (List.range n).reverse)).toArray) => refDist (some ⟨g, 0, none⟩) n n (szUp ps (List.range n).reverse) hzl n2 hz 0 n (Nat.le_refl _) (by omega) W (InM.ofBlk hW rfl))
  rw [Nat.sub_zero, ← hl] at HD
  generalize (lall ps).bk.length = nb at *
  have y1 : decide ((4096 : Int) < nb) = true := by simp; omega
  clear hp hok hM h hY hl hz hzl
  go_enter Try.func18, Try.ntmps18
  go_wp2_with fail
  refine H.out.mono ?_
  rintro e w1 ⟨rfl, hx1⟩
  go_wp2_with fail
  refine (HS.out _ (HM.out.ext hx1)).mono ?_
  rintro e w2 ⟨rfl, hb2, hx2⟩
  go_wp2_with fail
  refine (HD.out _ _ hb2).mono ?_
  rintro e w3 ⟨rfl, hx3⟩
  go_wp2_with fail
  go_ret2
  exact ⟨rfl, (hx1.trans hx2).trans hx3⟩
end Go.Proofs.Ytjlhfmedaandeaa
