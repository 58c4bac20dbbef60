import Derived.Test.YtjlhfmedaandeaaCodA
import Derived.Test.YtjlhfmedaandeaaBck
/- vestibuleref27: asks, distance. -/
namespace Go.Proofs.Ytjlhfmedaandeaa
open Go.RowKit Go.ChangeShapes Go.WideShapes
set_option linter.unusedVariables false
set_option linter.unusedSimpArgs false

set_option maxRecDepth 100000 in
theorem refAsks27 (s : Sy) (W : World) : Calls Try.prog 47 #[s.val] W fun e w' => e = .returned (.bool (asksC s.code)) ∧ Ext W w' := by
  obtain ⟨co, k, th, el⟩ := s
  unfold Sy.val Sy.cells
  dsimp only
  have hx := (Ext.refl W).alloc (.cells #[.int .u16 co, .int .u32 k, .int .i64 th, .int .i64 el] 32)
  have bs := Blk.new W 32 #[.int .u16 co, .int .u32 k, .int .i64 th, .int .i64 el]
  obtain ⟨R, hR⟩ : ∃ R, asksC co = R := ⟨_, rfl⟩
  rw [hR]
  have HR := Lib.hid hR
  clear hR
  rcases h1 : (co == 21) with _ | _
  · rcases h2 : (co == 37) with _ | _
    · rcases h3 : (co == 53) with _ | _
      · rcases h4 : (co == 69) with _ | _
        all_goals
          go_enter Try.func47, Try.ntmps47
          go_wp2
          go_ret
          exact ⟨by rw [← HR.out]; unfold asksC; rw [h1, h2, h3, h4]; rfl, hx⟩
      · go_enter Try.func47, Try.ntmps47
        go_wp2
        go_ret
        exact ⟨by rw [← HR.out]; unfold asksC; rw [h1, h2, h3]; rfl, hx⟩
    · go_enter Try.func47, Try.ntmps47
      go_wp2
      go_ret
      exact ⟨by rw [← HR.out]; unfold asksC; rw [h1, h2]; rfl, hx⟩
  · go_enter Try.func47, Try.ntmps47
    go_wp2
    go_ret
    exact ⟨by rw [← HR.out]; unfold asksC; rw [h1]; rfl, hx⟩
/-- How many instructions stand from a place to another one. -/
def dsum (sz : List Int) (lo : Nat) : Nat → Int
  | 0 => 0
  | k + 1 => dsum sz lo k + sz.getD (lo + k) 0
theorem dsum_bd (sz : List Int) (hz : ∀ x ∈ sz, 0 ≤ x ∧ x ≤ 3) (lo : Nat) : ∀ k, 0 ≤ dsum sz lo k ∧ dsum sz lo k ≤ 3 * k
  | 0 => by simp [dsum]
  | k + 1 => by
    have ih := dsum_bd sz hz lo k
    unfold dsum
    have : 0 ≤ sz.getD (lo + k) 0 ∧ sz.getD (lo + k) 0 ≤ 3 := by
      rw [List.getD_eq_getElem?_getD]
      by_cases h : lo + k < sz.length
      · rw [List.getElem?_eq_getElem h]
        exact hz _ (List.getElem_mem h)
      · rw [List.getElem?_eq_none (by omega)]
        simp
    omega
set_option maxRecDepth 100000 in
theorem refDist (A : Option Addr) (n c : Nat) (sz : List Int) (hs : sz.length = n) (hn : n ≤ 131072) (hz : ∀ x ∈ sz, 0 ≤ x ∧ x ≤ 3) (lo b : Nat) (hb : b ≤ n) (hlo : lo ≤ 200000) (W : World) (hM : InM W A (nums .i64 sz)) :
    Calls Try.prog 46 #[.slice A n c, .int .i64 ((lo : Int) - 1), .int .i64 b] W fun e w' => e = .returned (.int .i64 (dsum sz lo (b - lo))) ∧ Ext W w' := by
  have HS := Lib.hid hs
  have HZ := Lib.hid (fun k => dsum_bd sz hz lo k)
  have w1 : IntKind.i64.wrap ((lo : Int) - 1 + 1) = lo := by rw [show (lo : Int) - 1 + 1 = lo by omega]; exact IntWalk.i64_in _ (by omega)
  clear hs hz
  go_enter Try.func46, Try.ntmps46
  go_wp2_with fail
  go_loopw [7, 8] (fun s it W' => ∃ k i : Nat, i = lo + k ∧ (i ≤ b ∨ k = 0) ∧ s = .int .i64 (dsum sz lo k) ∧ it = .int .i64 i ∧ Ext W W') (fun _ it _ => b - (intOf it).toNat)
  case atStart => exact ⟨0, lo, rfl, .inr rfl, rfl, rfl, Ext.refl _⟩
  case round =>
    obtain ⟨k, i, hi, hk, rfl, rfl, hy⟩ := hrel
    have HI := Lib.hid hi
    by_cases hlt : i < b
    · have hip : i < sz.length := by rw [HS.out]; omega
      obtain ⟨b1, o1, rfl, _, h1⟩ := (hM.ext hy).num hip
      have hd := HZ.out k
      have hd1 := HZ.out (k + 1)
      have hst : dsum sz lo (k + 1) = dsum sz lo k + sz[i] := by
        show dsum sz lo k + sz.getD (lo + k) 0 = _
        rw [← HI.out, List.getD_eq_getElem?_getD, List.getElem?_eq_getElem hip]
        rfl
      rw [hst] at hd1
      have HST := Lib.hid hst
      have i0 : (0 : Int) ≤ i := by omega
      have i1 : (i : Int) < n := by omega
      have i2 : (i : Int) < b := by omega
      have i3 : (i : Int) ≤ 131072 := by omega
      have hkk : (k : Int) ≤ 131072 := by omega
      generalize sz[i] = p at *
      generalize dsum sz lo k = d at *
      have w2 : IntKind.i64.wrap (d + p) = d + p := IntWalk.i64_in _ (by omega)
      clear hst hip hi hd hd1
      go_wp2_with fail
      go_roundw
      case rel => exact ⟨k + 1, i + 1, by have := HI.out; omega, .inl (by omega), by rw [HST.out], by go_num, hy⟩
      case measure => simp [intOf]; omega
    · have i2 : ¬ (i : Int) < b := by omega
      have hkb : k = b - lo := by omega
      rw [hkb]
      clear hi hkb
      go_wp2_with fail
      go_ret
      exact ⟨rfl, hy⟩
end Go.Proofs.Ytjlhfmedaandeaa

/- vestibuleref27.Sizes. -/
namespace Go.Proofs.Ytjlhfmedaandeaa
open Go.RowKit Go.ChangeShapes Go.WideShapes
set_option linter.unusedVariables false
set_option linter.unusedSimpArgs false

def szOf (ps : List Sy) (sz : List Int) (i : Nat) : Int :=
  if asksC (ps.getD i zeroS).code && (decide (255 < dsum sz (i + 1) ((ps.getD i zeroS).th.toNat - (i + 1))) || decide (255 < dsum sz (i + 1) ((ps.getD i zeroS).el.toNat - (i + 1)))) then 3 else 1
def szStep (ps : List Sy) (sz : List Int) (i : Nat) : List Int := sz.set i (szOf ps sz i)
def szUp (ps : List Sy) (pre : List Nat) : List Int := pre.foldl (szStep ps) (List.replicate ps.length 0)
theorem szUp_snoc (ps : List Sy) (pre : List Nat) (i : Nat) : szUp ps (pre ++ [i]) = szStep ps (szUp ps pre) i := by simp [szUp, List.foldl_append]
theorem szFold_bd (ps : List Sy) : ∀ (pre : List Nat) (sz : List Int), (∀ x ∈ sz, 0 ≤ x ∧ x ≤ 3) → (∀ x ∈ pre.foldl (szStep ps) sz, 0 ≤ x ∧ x ≤ 3) ∧ (pre.foldl (szStep ps) sz).length = sz.length
  | [], sz, h => ⟨h, rfl⟩
  | i :: pre, sz, h => by
    have h2 : ∀ x ∈ szStep ps sz i, 0 ≤ x ∧ x ≤ 3 := fun x hx => by
      unfold szStep at hx
      rcases List.mem_or_eq_of_mem_set hx with q | q
      · exact h x q
      · rw [q]
        unfold szOf
        split <;> omega
    obtain ⟨h3, h4⟩ := szFold_bd ps pre _ h2
    exact ⟨h3, by rw [List.foldl_cons, h4]; simp [szStep]⟩
theorem szUp_bd (ps : List Sy) (pre : List Nat) : (∀ x ∈ szUp ps pre, 0 ≤ x ∧ x ≤ 3) ∧ (szUp ps pre).length = ps.length := by
  obtain ⟨h1, h2⟩ := szFold_bd ps pre (List.replicate ps.length 0) (fun x hx => by have := List.eq_of_mem_replicate hx; omega)
  exact ⟨h1, by rw [szUp, h2, List.length_replicate]⟩
theorem dsum_set (sz : List Int) (i : Nat) (v : Int) (lo : Nat) (h : i < lo) : ∀ k, dsum (sz.set i v) lo k = dsum sz lo k
  | 0 => rfl
  | k + 1 => by
    unfold dsum
    rw [dsum_set sz i v lo h k, List.getD_eq_getElem?_getD, List.getElem?_set_ne (by omega), ← List.getD_eq_getElem?_getD]
theorem nums_setI (l : List Int) (i : Nat) (v : Int) : (nums .i64 l).toArray.setIfInBounds i (.int .i64 v) = (nums .i64 (l.set i v)).toArray := by simp [nums, List.map_set]
theorem info_int4 : (Try.prog.info? 3).map (fun i => (i.zero, i.size, i.bytes)) = some (some (.int .i64 0), 1, 8) := by kernel_rfl
theorem made_ints4 (n : Nat) : madeCells #[Value.int .i64 0] n = (nums .i64 (List.replicate n 0)).toArray := by
  apply Array.toList_inj.1
  rw [toList_madeCells_one]
  simp [nums]
set_option maxHeartbeats 2000000 in
set_option maxRecDepth 100000 in
theorem refSizes (A : Option Addr) (n c : Nat) (ps : List Sy) (w : World) (hp : ps.length = n) (hmay : MayL ps) (hM : InM w A (sc ps)) :
    Calls Try.prog 45 #[.slice A n c] w fun e w' => e = .returned (.slice (some ⟨w.heap.size, 0, none⟩) n n) ∧ Blk w' w.heap.size 3 (nums .i64 (szUp ps (List.range n).reverse)).toArray ∧ Ext w w' := by
  have n1 : 1 ≤ n := by have := hmay.l1; omega
  have n2 : n ≤ 131072 := by have := hmay.l2; omega
  have hmk : ∀ w : World, (Instr.makeSlice 67 (.int .i64 (n : Int)) (.int .i64 (n : Int))).run Try.prog w = .ok (.slice (some ⟨w.heap.size, 0, none⟩) n n) (w.alloc (.cells (nums .i64 (List.replicate n 0)).toArray 3)) := fun w => by
    rw [← made_ints4]
    exact make_run1 67 3 (.int .i64 0) 8 Try.underlying67 info_int4 rfl .i64 .i64 n n (Nat.le_refl _) (by omega) (by omega) w
  have HM := Lib.hid hM
  have HP := Lib.hid hp
  have HY := Lib.hid hmay
  have w1 : IntKind.i64.wrap ((n : Int) - 1) = (n : Int) - 1 := IntWalk.i64_in _ (by omega)
  clear hM hp hmay
  go_enter Try.func45, Try.ntmps45
  go_wp2_with fail
  go_loopw [4] (fun it W => ∃ (k : Nat) (y : Int), k ≤ n ∧ y = (k : Int) - 1 ∧ it = .int .i64 y ∧ Ext w W ∧ Blk W w.heap.size 3 (nums .i64 (szUp ps ((List.range n).reverse.take (n - k)))).toArray) (fun it _ => (intOf it + 1).toNat)
  case atStart =>
    refine ⟨n, _, Nat.le_refl _, rfl, rfl, (Ext.refl w).alloc _, ?_⟩
    rw [Nat.sub_self]
    have e : szUp ps ((List.range n).reverse.take 0) = List.replicate n 0 := by rw [List.take_zero]; unfold szUp; rw [HP.out]; rfl
    rw [e]
    have e2 : (nums .i64 (List.replicate n 0)).toArray = Array.replicate n (Value.int .i64 0) := by simp [nums]
    first
      | exact Blk.new w _ _
      | (rw [e2]; exact Blk.new w _ _)
  case round =>
    obtain ⟨k, y, hk, hy0, rfl, hy, hB⟩ := hrel
    rcases k with _ | j
    · have hy' : y = -1 := by omega
      subst hy'
      rw [Nat.sub_zero, List.take_of_length_le (by simp)] at hB
      clear hy0
      go_wp2_with fail
      go_ret
      exact ⟨rfl, hB, hy⟩
    · have hy' : y = j := by omega
      subst hy'
      have hjn : j < n := by omega
      have hjp : j < ps.length := by rw [HP.out]; exact hjn
      obtain ⟨bA, oA, rfl, hbA⟩ := sym_some HM.out (by omega)
      have hK := kind_of (HY.out.one j hjp)
      have hbd := szUp_bd ps ((List.range n).reverse.take (n - (j + 1)))
      have hst := Lib.hid ((congrArg (szUp ps) (back_step n j hjn)).trans (szUp_snoc ps _ j))
      rw [HP.out] at hK hbd
      rw [getD_sy hjp] at hK
      have HSO := Lib.hid (show ∀ sz, szStep ps sz j = sz.set j (szOf ps sz j) from fun _ => rfl)
      have HOF := Lib.hid (show ∀ sz, szOf ps sz j = if asksC ps[j].code && (decide (255 < dsum sz (j + 1) (ps[j].th.toNat - (j + 1))) || decide (255 < dsum sz (j + 1) (ps[j].el.toNat - (j + 1)))) then 3 else 1 from fun sz => by unfold szOf; rw [getD_sy hjp])
      have PC := Lib.hid (fun W' (h : Ext w W') => sym_cells (HM.out.ext h) hjp)
      have HAS := Lib.hid (fun W' => refAsks27 ps[j] W')
      generalize ps[j] = s at *
      obtain ⟨co, kk, th, el⟩ := s
      unfold Sy.val Sy.cells at HAS
      dsimp only at HAS HOF PC
      generalize szUp ps ((List.range n).reverse.take (n - (j + 1))) = sz at *
      obtain ⟨hz, hzl⟩ := hbd
      have c0 := (hB.cell j).trans (show ((nums .i64 sz).toArray)[j]? = some (.int .i64 (sz[j]'(by omega))) from by rw [List.getElem?_toArray, nums_at (by omega)])
      generalize sz[j]'(by omega) = z0 at c0
      have f0 := hB.frozen j
      have hsl := Lib.hid (show j < sz.length from by omega)
      have b1 := hB.set_ j (.int .i64 1)
      rw [nums_setI] at b1
      have x1 := hy.set (p := ⟨w.heap.size, j, none⟩) (Nat.le_refl _) (.int .i64 1)
      have hz1 : ∀ x ∈ sz.set j 1, 0 ≤ x ∧ x ≤ 3 := fun x hx => by
        rcases List.mem_or_eq_of_mem_set hx with q | q
        · exact hz x q
        · omega
      have HD := Lib.hid (fun (t : Nat) (ht : t ≤ n) (W' : World) (hW : Blk W' w.heap.size 3 (nums .i64 (sz.set j 1)).toArray) => by
        have h := refDist (some ⟨w.heap.size, 0, none⟩) n n (sz.set j 1) (by rw [List.length_set]; exact hzl) n2 hz1 (j + 1) t ht (by omega) W' (InM.ofBlk hW rfl)
        rw [dsum_set sz j 1 (j + 1) (by omega), show (((j + 1 : Nat)) : Int) - 1 = (j : Int) by omega] at h
        exact h)
      obtain ⟨q0, q1, q2, q3⟩ := PC.out _ x1
      have j0 : (0 : Int) ≤ j := by omega
      have j1 : (j : Int) < n := by omega
      have w2 : IntKind.i64.wrap ((j : Int) - 1) = (j : Int) - 1 := IntWalk.i64_in _ (by omega)
      have B1 := Lib.hid b1
      have X1 := Lib.hid x1
      clear hz hzl hz1 hB hy hy0 hbA hjp
      rcases hA : asksC co with _ | _
      · have SO := Lib.hid (show szStep ps sz j = sz.set j 1 from by rw [HSO.out, HOF.out, hA]; rfl)
        go_wp2_with fail
        refine (HAS.out _).mono ?_
        rintro e w9 ⟨rfl, hx9⟩
        rw [hA]
        clear b1 x1 c0 f0 q0 q1 q2 q3
        go_wp2_with fail
        go_roundw
        case rel =>
          first
            | exact ⟨j, _, by omega, rfl, rfl, (X1.out.trans hx9), by rw [hst.out, SO.out]; exact (B1.out.ext hx9)⟩
            | (repeat apply Exists.intro
               refine ⟨?_, rfl⟩
               exact ⟨j, _, by omega, rfl, rfl, (X1.out.trans hx9), by rw [hst.out, SO.out]; exact (B1.out.ext hx9)⟩)
        case measure => first | (simp [intOf]; done) | (simp [intOf]; omega)
      · obtain ⟨⟨t, rfl, ht1, ht2⟩, ⟨u, rfl, hu1, hu2⟩⟩ : (∃ t : Nat, th = t ∧ j < t ∧ t < n) ∧ (∃ u : Nat, el = u ∧ j < u ∧ u < n) := by
          rcases hK with ⟨h, _, _, _⟩ | ⟨h, _, _⟩ | ⟨h, _, _⟩ | ⟨h, _, _, h9⟩ | ⟨h, h8, h9⟩
          · dsimp only at h; rw [h] at hA; cases hA
          · dsimp only at h; rw [h] at hA; cases hA
          · dsimp only at h; rw [h] at hA; cases hA
          · dsimp only at h; rw [h] at hA; cases hA
          · dsimp only at h8 h9
            exact ⟨⟨th.toNat, by omega, by omega, by omega⟩, ⟨el.toNat, by omega, by omega, by omega⟩⟩
        have hof := HOF.out sz
        rw [hA, Int.toNat_natCast, Int.toNat_natCast, Bool.true_and] at hof
        have HDT := Lib.hid (HD.out t (by omega))
        have HDU := Lib.hid (HD.out u (by omega))
        clear HD hK HOF
        generalize dsum sz (j + 1) (t - (j + 1)) = d1 at *
        generalize dsum sz (j + 1) (u - (j + 1)) = d2 at *
        rcases e1 : decide (255 < d1) with _ | _
        · rcases e2 : decide (255 < d2) with _ | _
          · have SO := Lib.hid (show szStep ps sz j = sz.set j 1 from by rw [HSO.out, hof, e1, e2]; rfl)
            clear hof
            go_wp2_with fail
            refine (HAS.out _).mono ?_
            rintro e w9 ⟨rfl, hx⟩
            rw [hA]
            have hy9 := hx
            have hx9 := X1.out.trans hx
            clear hx q0 q1 q2 q3 c0 f0
            obtain ⟨q0, q1, q2, q3⟩ := PC.out _ hx9
            go_wp2_with fail
            refine (HDT.out _ (B1.out.ext hy9)).mono ?_
            rintro e w10 ⟨rfl, hx⟩
            have hy10 := hy9.trans hx
            have hx10 := hx9.trans hx
            clear hx q0 q1 q2 q3
            obtain ⟨q0, q1, q2, q3⟩ := PC.out _ hx10
            go_wp2_with fail
            refine (HDU.out _ (B1.out.ext hy10)).mono ?_
            rintro e w11 ⟨rfl, hx⟩
            have hy11 := hy10.trans hx
            have hx11 := hx10.trans hx
            clear hx q0 q1 q2 q3
            obtain ⟨q0, q1, q2, q3⟩ := PC.out _ hx11
            go_wp2_with fail
            clear q0 q1 q2 q3 b1 x1
            go_wp2_with fail
            go_roundw
            case rel =>
              first
                | exact ⟨j, _, by omega, rfl, rfl, hx11, by rw [hst.out, SO.out]; exact (B1.out.ext hy11)⟩
                | (repeat apply Exists.intro
                   refine ⟨?_, rfl⟩
                   exact ⟨j, _, by omega, rfl, rfl, hx11, by rw [hst.out, SO.out]; exact (B1.out.ext hy11)⟩)
            case measure => first | (simp [intOf]; done) | (simp [intOf]; omega)
          · have SO := Lib.hid (show szStep ps sz j = sz.set j 3 from by rw [HSO.out, hof, e1, e2]; rfl)
            clear hof
            go_wp2_with fail
            refine (HAS.out _).mono ?_
            rintro e w9 ⟨rfl, hx⟩
            rw [hA]
            have hy9 := hx
            have hx9 := X1.out.trans hx
            clear hx q0 q1 q2 q3 c0 f0
            obtain ⟨q0, q1, q2, q3⟩ := PC.out _ hx9
            go_wp2_with fail
            refine (HDT.out _ (B1.out.ext hy9)).mono ?_
            rintro e w10 ⟨rfl, hx⟩
            have hy10 := hy9.trans hx
            have hx10 := hx9.trans hx
            clear hx q0 q1 q2 q3
            obtain ⟨q0, q1, q2, q3⟩ := PC.out _ hx10
            go_wp2_with fail
            refine (HDU.out _ (B1.out.ext hy10)).mono ?_
            rintro e w11 ⟨rfl, hx⟩
            have hy11 := hy10.trans hx
            have hx11 := hx10.trans hx
            clear hx q0 q1 q2 q3
            obtain ⟨q0, q1, q2, q3⟩ := PC.out _ hx11
            have bz := B1.out.ext hy11
            have hjl : j < (sz.set j 1).length := by
              have := hsl.out
              rw [List.length_set]; omega
            have cz := (bz.cell j).trans (show ((nums .i64 (sz.set j 1)).toArray)[j]? = some (.int .i64 ((sz.set j 1)[j]'hjl)) from by rw [List.getElem?_toArray, nums_at hjl])
            generalize (sz.set j 1)[j]'hjl = zz at cz
            have fz := bz.frozen j
            have b3 := bz.set_ j (.int .i64 3)
            rw [nums_setI, List.set_set] at b3
            have x3 := (hx11).set (p := ⟨w.heap.size, j, none⟩) (Nat.le_refl _) (.int .i64 3)
            have B3 := Lib.hid b3
            have X3 := Lib.hid x3
            clear b3 x3 bz
            go_wp2_with fail
            clear cz fz q0 q1 q2 q3 b1 x1
            go_wp2_with fail
            go_roundw
            case rel =>
              first
                | exact ⟨j, _, by omega, rfl, rfl, X3.out, by rw [hst.out, SO.out]; exact B3.out⟩
                | (repeat apply Exists.intro
                   refine ⟨?_, rfl⟩
                   exact ⟨j, _, by omega, rfl, rfl, X3.out, by rw [hst.out, SO.out]; exact B3.out⟩)
            case measure => first | (simp [intOf]; done) | (simp [intOf]; omega)
        · have SO := Lib.hid (show szStep ps sz j = sz.set j 3 from by rw [HSO.out, hof, e1]; rfl)
          clear hof
          go_wp2_with fail
          refine (HAS.out _).mono ?_
          rintro e w9 ⟨rfl, hx⟩
          rw [hA]
          have hy9 := hx
          have hx9 := X1.out.trans hx
          clear hx q0 q1 q2 q3 c0 f0
          obtain ⟨q0, q1, q2, q3⟩ := PC.out _ hx9
          go_wp2_with fail
          refine (HDT.out _ (B1.out.ext hy9)).mono ?_
          rintro e w10 ⟨rfl, hx⟩
          have hy10 := hy9.trans hx
          have hx10 := hx9.trans hx
          clear hx q0 q1 q2 q3
          obtain ⟨q0, q1, q2, q3⟩ := PC.out _ hx10
          have bz := B1.out.ext hy10
          have hjl : j < (sz.set j 1).length := by
            have := hsl.out
            rw [List.length_set]; omega
          have cz := (bz.cell j).trans (show ((nums .i64 (sz.set j 1)).toArray)[j]? = some (.int .i64 ((sz.set j 1)[j]'hjl)) from by rw [List.getElem?_toArray, nums_at hjl])
          generalize (sz.set j 1)[j]'hjl = zz at cz
          have fz := bz.frozen j
          have b3 := bz.set_ j (.int .i64 3)
          rw [nums_setI, List.set_set] at b3
          have x3 := (hx10).set (p := ⟨w.heap.size, j, none⟩) (Nat.le_refl _) (.int .i64 3)
          have B3 := Lib.hid b3
          have X3 := Lib.hid x3
          clear b3 x3 bz
          go_wp2_with fail
          clear cz fz q0 q1 q2 q3 b1 x1
          go_wp2_with fail
          go_roundw
          case rel =>
            first
              | exact ⟨j, _, by omega, rfl, rfl, X3.out, by rw [hst.out, SO.out]; exact B3.out⟩
              | (repeat apply Exists.intro
                 refine ⟨?_, rfl⟩
                 exact ⟨j, _, by omega, rfl, rfl, X3.out, by rw [hst.out, SO.out]; exact B3.out⟩)
          case measure => first | (simp [intOf]; done) | (simp [intOf]; omega)
end Go.Proofs.Ytjlhfmedaandeaa

/- The document's sizes, each by itself: plain law. -/
namespace Go.Proofs.Ytjlhfmedaandeaa
open Go.RowKit
set_option linter.unusedVariables false
set_option linter.unusedSimpArgs false

theorem szOf_set (ps : List Sy) (sz : List Int) (j : Nat) (v : Int) (i : Nat) (h : j ≤ i) : szOf ps (sz.set j v) i = szOf ps sz i := by
  unfold szOf
  simp only [dsum_set sz j v (i + 1) (by omega)]
theorem szUp_one (ps : List Sy) : ∀ k, k ≤ ps.length → ∀ i, ps.length - k ≤ i → i < ps.length → (szUp ps ((List.range ps.length).reverse.take k)).getD i 0 = szOf ps (szUp ps ((List.range ps.length).reverse.take k)) i
  | 0, _, i, h1, h2 => by omega
  | k + 1, hk, i, h1, h2 => by
    have ih := szUp_one ps k (by omega)
    have hl := (szUp_bd ps ((List.range ps.length).reverse.take k)).2
    have hs := back_step ps.length (ps.length - (k + 1)) (by omega)
    rw [show ps.length - (ps.length - (k + 1)) = k + 1 by omega, show ps.length - (ps.length - (k + 1) + 1) = k by omega] at hs
    rw [hs, szUp_snoc]
    unfold szStep
    rw [szOf_set _ _ _ _ _ (by omega)]
    by_cases e : ps.length - (k + 1) = i
    · rw [← e, List.getD_eq_getElem?_getD, List.getElem?_set_self (by rw [hl]; omega)]
      rfl
    · rw [List.getD_eq_getElem?_getD, List.getElem?_set_ne e, ← List.getD_eq_getElem?_getD, ih i (by omega) h2]
theorem szUp_all (ps : List Sy) (i : Nat) (h : i < ps.length) : (szUp ps (List.range ps.length).reverse).getD i 0 = szOf ps (szUp ps (List.range ps.length).reverse) i := by
  have := szUp_one ps ps.length (Nat.le_refl _) i (by omega) h
  rw [List.take_of_length_le (by simp)] at this
  exact this
end Go.Proofs.Ytjlhfmedaandeaa
