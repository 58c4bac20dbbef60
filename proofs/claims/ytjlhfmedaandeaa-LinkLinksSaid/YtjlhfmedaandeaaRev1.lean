import Derived.Test.YtjlhfmedaandeaaLinked2
/- slices.Reverse of instructions. -/
namespace Go.Proofs.Ytjlhfmedaandeaa
open Go.RowKit Go.ChangeShapes Go.WideShapes
set_option linter.unusedVariables false
set_option linter.unusedSimpArgs false
theorem set4 : ∀ (l : List Ins) (k : Nat) (X : Ins), k < l.length → ((((pc l).set (k * 4) (.int .u16 X.code)).set (k * 4 + 1) (.int .u8 X.jt)).set (k * 4 + 2) (.int .u8 X.jf)).set (k * 4 + 3) (.int .u32 X.k) = pc (l.set k X)
  | [], _, _, h => by simp at h
  | i :: ps, 0, X, _ => by
    rw [pc_cons, List.set_cons_zero, pc_cons]
    rfl
  | i :: ps, k + 1, X, h => by
    have ih := set4 ps k X (by simpa using h)
    rw [pc_cons, List.set_cons_succ, pc_cons, ← ih]
    rw [show (k + 1) * 4 = k * 4 + 1 + 1 + 1 + 1 by omega, show k * 4 + 1 + 1 + 1 + 1 + 1 = (k * 4 + 1) + 1 + 1 + 1 + 1 by omega, show k * 4 + 1 + 1 + 1 + 1 + 2 = (k * 4 + 2) + 1 + 1 + 1 + 1 by omega, show k * 4 + 1 + 1 + 1 + 1 + 3 = (k * 4 + 3) + 1 + 1 + 1 + 1 by omega]
    simp only [Ins.cells, List.cons_append, List.nil_append, List.set_cons_succ]
theorem set4_more (l : List Ins) (more : List Value) (k : Nat) (X : Ins) (hk : k < l.length) :
    (((((pc l ++ more).toArray.setIfInBounds (k * 4) (.int .u16 X.code)).setIfInBounds (k * 4 + 1) (.int .u8 X.jt)).setIfInBounds (k * 4 + 2) (.int .u8 X.jf)).setIfInBounds (k * 4 + 3) (.int .u32 X.k)) = (pc (l.set k X) ++ more).toArray := by
  have hl := pc_length l
  apply Array.toList_inj.1
  simp only [Array.toList_setIfInBounds, List.toList_toArray]
  rw [List.set_append_left _ _ (by omega), List.set_append_left _ _ (by rw [List.length_set]; omega), List.set_append_left _ _ (by rw [List.length_set, List.length_set]; omega), List.set_append_left _ _ (by rw [List.length_set, List.length_set, List.length_set]; omega), set4 l k X hk]
theorem getD_setI (l : List Ins) (i k : Nat) (a : Ins) (h : k < l.length) : (l.set i a).getD k zeroI = if i = k then a else l.getD k zeroI := by
  simp only [List.getD_eq_getElem?_getD, List.getElem?_set]
  by_cases e : i = k
  · subst e; simp [h]
  · simp [e]
set_option maxHeartbeats 1000000 in
set_option maxRecDepth 100000 in
theorem reverseI (g m c : Nat) (hm : m ≤ 400000) (t : TypeId) (cur : List Value) (l0 : List Ins) (hl : l0.length = m) (hc : ∃ more, cur = pc l0 ++ more) (W : World) (hB : Blk W g t cur.toArray) :
    Calls Try.prog 44 #[.slice (some ⟨g, 0, none⟩) m c] W fun e w' => (∃ u, e = .returned u) ∧ W.grownBy w' (some g) ∧ ∃ more, Blk w' g t (pc l0.reverse ++ more).toArray := by
  obtain ⟨more, rfl⟩ := hc
  have HL := Lib.hid hl
  clear hl
  have w0 : IntKind.i64.wrap ((m : Int) - 1) = (m : Int) - 1 := IntWalk.i64_in _ (by omega)
  go_enter Try.func44, Try.ntmps44
  go_wp2_with fail
  go_loopw [2, 3] (fun a b wr => ∃ (i : Nat) (y : Int) (l : List Ins), y = (m : Int) - 1 - i ∧ 2 * i ≤ m + 1 ∧ a = .int .i64 i ∧ b = .int .i64 y ∧ l.length = m ∧ (∀ k, k < m → l.getD k zeroI = if k < i ∨ m - 1 - k < i then l0.getD (m - 1 - k) zeroI else l0.getD k zeroI) ∧ W.grownBy wr (some g) ∧ Blk wr g t (pc l ++ more).toArray) (fun a b _ => (intOf b - intOf a).toNat)
  case atStart => exact ⟨0, _, l0, by omega, by omega, rfl, rfl, HL.out, fun k _ => by simp, ⟨rfl, rfl, rfl, Nat.le_refl _, fun _ _ _ => rfl⟩, hB⟩
  case round =>
    clear hB w0
    obtain ⟨i, y, l, hy, hi, rfl, rfl, hll, hlk, hg, hB⟩ := hrel
    have HLL := Lib.hid hll
    have HLK := Lib.hid hlk
    by_cases hlt : (i : Int) < y
    · obtain ⟨j, rfl⟩ : ∃ j : Nat, y = j := ⟨y.toNat, by omega⟩
      have hij : i < j := by omega
      have hjm : j < m := by omega
      have hiL : i < l.length := by omega
      have hjL : j < l.length := by omega
      have CI : ∀ r, r < 4 → ((pc l ++ more).toArray)[i * 4 + r]? = l[i].cells.toList[r]? := fun r hr => by
        rw [List.getElem?_toArray, List.getElem?_append_left (by rw [pc_length]; omega), pc_at l i r hiL hr]
      have CJ : ∀ r, r < 4 → ((pc l ++ more).toArray)[j * 4 + r]? = l[j].cells.toList[r]? := fun r hr => by
        rw [List.getElem?_toArray, List.getElem?_append_left (by rw [pc_length]; omega), pc_at l j r hjL hr]
      have p0 := (hB.cell (i * 4)).trans (CI 0 (by omega))
      have p1 := (hB.cell (i * 4 + 1)).trans (CI 1 (by omega))
      have p2 := (hB.cell (i * 4 + 2)).trans (CI 2 (by omega))
      have p3 := (hB.cell (i * 4 + 3)).trans (CI 3 (by omega))
      have q0 := (hB.cell (j * 4)).trans (CJ 0 (by omega))
      have q1 := (hB.cell (j * 4 + 1)).trans (CJ 1 (by omega))
      have q2 := (hB.cell (j * 4 + 2)).trans (CJ 2 (by omega))
      have q3 := (hB.cell (j * 4 + 3)).trans (CJ 3 (by omega))
      have f0 := hB.frozen (i * 4)
      have f1 := hB.frozen (i * 4 + 1)
      have f2 := hB.frozen (i * 4 + 2)
      have f3 := hB.frozen (i * 4 + 3)
      have f4 := hB.frozen (j * 4)
      have f5 := hB.frozen (j * 4 + 1)
      have f6 := hB.frozen (j * 4 + 2)
      have f7 := hB.frozen (j * 4 + 3)
      have i0 : (0 : Int) ≤ i := by omega
      have i1 : (i : Int) < m := by omega
      have j0 : (0 : Int) ≤ j := by omega
      have j1 : (j : Int) < m := by omega
      have j2 : (j : Int) ≤ 400000 := by omega
      have j3 : (i : Int) < j := by omega
      have HY := Lib.hid hy
      clear CI CJ hll hlk hy
      have gi : l.getD i zeroI = l[i] := by rw [List.getD_eq_getElem?_getD, List.getElem?_eq_getElem hiL]; rfl
      have gj : l.getD j zeroI = l[j] := by rw [List.getD_eq_getElem?_getD, List.getElem?_eq_getElem hjL]; rfl
      have GI := Lib.hid gi
      have GJ := Lib.hid gj
      have HG := Lib.hid hg
      have HB := Lib.hid hB
      clear gi gj hg hB
      generalize l[i] = P at *
      generalize l[j] = R at *
      obtain ⟨pc0, pj, pf, pk⟩ := P
      obtain ⟨rc0, rj, rf, rk⟩ := R
      simp only [Ins.cells, List.getElem?_cons_zero, List.getElem?_cons_succ] at p0 p1 p2 p3 q0 q1 q2 q3
      go_wp2_with fail
      go_region
      have b1 := (((HB.out.set_ (i * 4) (.int .u16 rc0)).set_ (i * 4 + 1) (.int .u8 rj)).set_ (i * 4 + 2) (.int .u8 rf)).set_ (i * 4 + 3) (.int .u32 rk)
      rw [set4_more l more i ⟨rc0, rj, rf, rk⟩ hiL] at b1
      have b2 := (((b1.set_ (j * 4) (.int .u16 pc0)).set_ (j * 4 + 1) (.int .u8 pj)).set_ (j * 4 + 2) (.int .u8 pf)).set_ (j * 4 + 3) (.int .u32 pk)
      rw [set4_more (l.set i ⟨rc0, rj, rf, rk⟩) more j ⟨pc0, pj, pf, pk⟩ (by rw [List.length_set]; exact hjL)] at b2
      have hg2 := ((((((((HG.out.trans (grown_set wr g (i * 4) (.int .u16 rc0))).trans (grown_set _ g (i * 4 + 1) (.int .u8 rj))).trans (grown_set _ g (i * 4 + 2) (.int .u8 rf))).trans (grown_set _ g (i * 4 + 3) (.int .u32 rk))).trans (grown_set _ g (j * 4) (.int .u16 pc0))).trans (grown_set _ g (j * 4 + 1) (.int .u8 pj))).trans (grown_set _ g (j * 4 + 2) (.int .u8 pf))).trans (grown_set _ g (j * 4 + 3) (.int .u32 pk)))
      have B2 := Lib.hid (b2.drew)
      have G2 := Lib.hid (hg2.trans (grown_any (grown_drew _) (some g)))
      have w5 : IntKind.i64.wrap ((j : Int) - 1) = (j : Int) - 1 := IntWalk.i64_in _ (by omega)
      clear b1 b2 hg2 p0 p1 p2 p3 q0 q1 q2 q3 f0 f1 f2 f3 f4 f5 f6 f7
      go_wp2_with fail
      go_roundw
      case rel =>
        have hY := HY.out
        have hl2 := HLL.out
        refine ⟨i + 1, (j : Int) - 1, (l.set i ⟨rc0, rj, rf, rk⟩).set j ⟨pc0, pj, pf, pk⟩, by omega, by omega, by go_num, rfl, by rw [List.length_set, List.length_set]; exact hl2, fun k hk => ?_, G2.out, B2.out⟩
        have hi' := HLK.out i (by omega)
        have hj' := HLK.out j (by omega)
        rw [GI.out, if_neg (by omega)] at hi'
        rw [GJ.out, if_neg (by omega)] at hj'
        rw [getD_setI _ _ _ _ (by rw [List.length_set]; omega), getD_setI _ _ _ _ (by omega)]
        by_cases e1 : j = k
        · subst e1
          rw [if_pos rfl, if_pos (by omega), hi', show m - 1 - j = i by omega]
        · rw [if_neg e1]
          by_cases e2 : i = k
          · subst e2
            rw [if_pos rfl, if_pos (by omega), hj', show m - 1 - i = j by omega]
          · rw [if_neg e2, HLK.out k hk]
            by_cases e3 : k < i ∨ m - 1 - k < i
            · rw [if_pos e3, if_pos (by omega)]
            · rw [if_neg e3, if_neg (by omega)]
      case measure => simp [intOf]; omega
    · have hrev : l = l0.reverse := by
        refine List.ext_getElem (by rw [hll, List.length_reverse, HL.out]) fun k h1 h2 => ?_
        have h := hlk k (by omega)
        have hk0 : k < l.length := h1
        have e1 : l.getD k zeroI = l[k] := by rw [List.getD_eq_getElem?_getD, List.getElem?_eq_getElem hk0]; rfl
        have hl0 := HL.out
        rw [List.getElem_reverse, ← e1, h]
        have e2 : ∀ q, (hq : q < l0.length) → l0.getD q zeroI = l0[q] := fun q hq => by rw [List.getD_eq_getElem?_getD, List.getElem?_eq_getElem hq]; rfl
        by_cases e3 : k < i ∨ m - 1 - k < i
        · rw [if_pos e3, e2 _ (by omega)]
          congr 1
          omega
        · rw [if_neg e3, e2 _ (by omega)]
          congr 1
          omega
      subst hrev
      have HG := Lib.hid hg
      have HB := Lib.hid hB
      clear hg hB hlk hll
      go_wp2_with fail
      go_end0
      exact ⟨⟨_, rfl⟩, HG.out, more, HB.out⟩
end Go.Proofs.Ytjlhfmedaandeaa
