import Derived.Test.YtplpffcolcjboaaCells21
import Derived.Test.YtplpffcolcjboaaAwake5
/- The law CellsNone, walked. -/
namespace Go.Proofs.Ytplpffcolcjboaa
open Go.RowKit Go.ChangeShapes Go.WideShapes
set_option linter.unusedVariables false
set_option linter.unusedSimpArgs false

/-- The places that were led to. -/
def fromU (ps : List Ins) (k : Nat) : List Bool := if k = 0 then List.replicate ps.length false else rupto ps k
theorem fromU_len (ps : List Ins) (k : Nat) : (fromU ps k).length = ps.length := by
  unfold fromU
  split
  · simp
  · exact rupto_length ps k
theorem setAll_set0 : ∀ (ns : List Int) (l : List Bool), (∀ x ∈ ns, 0 < x) → (setAll l ns).set 0 true = setAll (l.set 0 true) ns
  | [], l, _ => rfl
  | n :: ns, l, h => by
    have h0 := h n (by simp)
    have ih := setAll_set0 ns (l.set n.toNat true) (fun x hx => h x (by simp [hx]))
    simp only [setAll, List.foldl_cons] at ih ⊢
    rw [ih, List.set_comm _ _ (by omega)]
theorem from_zero (ps : List Ins) (hok : ∀ i ∈ ps, i.ok) (h0 : 0 < ps.length) : (setAll (fromU ps 0) (nextL ps ((0 : Nat) : Int))).set 0 true = fromU ps 1 := by
  have hr : (rupto ps 0).getD 0 false = true := by
    show (rstart ps.length).getD 0 false = true
    simp [rstart, List.getD_eq_getElem?_getD, h0]
  unfold fromU
  rw [if_pos rfl, if_neg (by omega), setAll_set0 _ _ (fun x hx => by have := nextL_bd ps hok _ x hx; omega), rupto_succ]
  unfold rstep
  rw [hr, if_pos rfl]
  rfl
theorem from_next (ps : List Ins) (k : Nat) (h : k ≠ 0) : fromU ps (k + 1) = if (rupto ps k).getD k false then setAll (fromU ps k) (nextL ps (k : Int)) else fromU ps k := by
  unfold fromU
  rw [if_neg (by omega), if_neg h, rupto_succ]
  rfl
theorem from_at (ps : List Ins) (hok : ∀ i ∈ ps, i.ok) (hn : ¬ 4096 < ps.length) (k : Nat) (hk : k < ps.length) : (fromU ps (k + 1)).getD k false = (reachL ps).getD k false := by
  unfold fromU
  rw [if_neg (by omega), reach_get ps hok hn k hk, rupto_stable ps hok k 1]
theorem sure_none (ps : List Ins) (hok : ∀ i ∈ ps, i.ok) (hn : ¬ 4096 < ps.length) (k : Nat) (hk : k < ps.length) (hr : (reachL ps).getD k false = false) : (sureT ps).getD k 0 = 65535 := by
  unfold sureT
  rw [if_neg hn, masks_get ps _ k hk, if_neg]
  rw [← reach_get ps hok hn k hk, hr]
  simp
theorem sure_zero (ps : List Ins) (hok : ∀ i ∈ ps, i.ok) (hn : ¬ 4096 < ps.length) (hk : 0 < ps.length) : (sureT ps).getD 0 0 = 0 := by
  have hr : (rupto ps 0).getD 0 false = true := by
    show (rstart ps.length).getD 0 false = true
    simp [rstart, List.getD_eq_getElem?_getD, hk]
  unfold sureT
  rw [if_neg hn, masks_get ps _ 0 hk, if_pos ⟨hk, hr⟩]
  simp [wupto, List.getD_eq_getElem?_getD, hk]
theorem reach_zero (ps : List Ins) (hok : ∀ i ∈ ps, i.ok) (hn : ¬ 4096 < ps.length) (hk : 0 < ps.length) : (reachL ps).getD 0 false = true := by
  rw [reach_get ps hok hn 0 hk]
  show (rstart ps.length).getD 0 false = true
  simp [rstart, List.getD_eq_getElem?_getD, hk]
theorem getD_of {α : Type} {l : List α} {k : Nat} {d a : α} (hk : k < l.length) (h : l.getD k d = a) : l[k]? = some a := by
  rw [List.getD_eq_getElem?_getD, List.getElem?_eq_getElem hk] at h
  rw [List.getElem?_eq_getElem hk]
  simpa using h
set_option maxHeartbeats 4000000 in
set_option maxRecDepth 100000 in
theorem cellsNone_walk (A : Option Addr) (n c : Nat) (ps : List Ins) (hp : ps.length = n) (hm : n ≤ c ∧ c ≤ maxLen) (hok : ∀ i ∈ ps, i.ok) {W : World} (hM : InM W A (pc ps)) (_ : World) :
    Calls Try.prog 17 #[.slice A n c] W fun e w' => e = .returned (.bool true) ∧ Ext W w' := by
  have HA := Lib.hid (fun W => awake05 W)
  have hx := Ext.refl W
  by_cases big : 300 < n
  · have d1 : (300 : Int) < n := by omega
    clear hp hm hok hM
    go_enter Try.func17, Try.ntmps17
    go_wp2_with fail
    refine (HA.out _).mono ?_
    rintro e w1 ⟨rfl, hx'⟩
    replace hx := Ext.trans (by first | exact hx | exact hx.alloc _ | exact (hx.alloc _).alloc _ | exact hx.drew) hx'
    clear hx'
    go_wp2
    go_ret
    exact ⟨rfl, hx⟩
  have d1 : ¬ (300 : Int) < n := by omega
  have hn' : ¬ 4096 < ps.length := by omega
  have R := Lib.hid (fun W' h => reachedI A n c ps W' hp hok h)
  have S := Lib.hid (fun W' h => sureI A n c ps W' hp hok h)
  rw [reach_same ps hok] at R
  have N := Lib.hid (fun (x : Int) W' h => nextI A n c ps x W' hp (by omega) hok h)
  have lr : (reachL ps).length = n := by unfold reachL; rw [if_neg hn', rupto_length, hp]
  have ls : (sureT ps).length = n := by unfold sureT; rw [if_neg hn', masksOf_len, hp]
  rw [lr] at R
  rw [ls] at S
  have HBD := Lib.hid (fun x : Int => nextL_bd ps hok x)
  have F1 := Lib.hid (fun k hk => from_at ps hok hn' k hk)
  have F0 := Lib.hid (fun h => from_zero ps hok h)
  have FN := Lib.hid (fun k h => from_next ps k h)
  have RG := Lib.hid (fun k hk => reach_get ps hok hn' k hk)
  have SN := Lib.hid (fun k hk h => sure_none ps hok hn' k hk h)
  have SZ := Lib.hid (fun h => sure_zero ps hok hn' h)
  have RZ := Lib.hid (fun h => reach_zero ps hok hn' h)
  have HFL := Lib.hid (fun k => (fromU_len ps k).trans hp)
  have HP := Lib.hid hp
  have HM := Lib.hid hM
  have HLR := Lib.hid lr
  have HLS := Lib.hid ls
  have hmk : ∀ w : World, (Instr.makeSlice 32 (.int .i64 (n : Int)) (.int .i64 (n : Int))).run Try.prog w = .ok (.slice (some ⟨w.heap.size, 0, none⟩) n n) (w.alloc (.cells (bools (List.replicate n false)) 4)) := fun w => by
    rw [← bools_rep]
    exact make_run1 32 4 (.bool false) 1 Try.underlying32 info_bool rfl .i64 .i64 n n (Nat.le_refl _) (by omega) (by decide) w
  have hf0 : fromU ps 0 = List.replicate n false := by unfold fromU; rw [if_pos rfl, hp]
  have HF0 := Lib.hid hf0
  have s1 : ((n : Int) != n) = false := by simp
  generalize reachL ps = rl at *
  generalize sureT ps = sl at *
  clear hp hm hok hM lr ls big hn' hf0
  go_enter Try.func17, Try.ntmps17
  go_wp2_with fail
  refine (HA.out _).mono ?_
  rintro e w1 ⟨rfl, hx'⟩
  replace hx := Ext.trans (by first | exact hx | exact hx.alloc _ | exact (hx.alloc _).alloc _ | exact hx.drew) hx'
  clear hx'
  go_wp2_with fail
  refine (R.out _ (HM.out.ext hx)).mono ?_
  rintro e w2 ⟨P1, rfl, hP1, hx'⟩
  replace hx := hx.trans hx'
  clear hx'
  go_wp2_with fail
  refine (S.out _ (HM.out.ext hx)).mono ?_
  rintro e w3 ⟨P2, rfl, hP2, hx'⟩
  replace hx := hx.trans hx'
  replace hP1 := hP1.ext hx'
  clear hx'
  have hG := Blk.new w3 4 (bools (List.replicate n false))
  have hy0 := (Ext.refl w3).alloc (.cells (bools (List.replicate n false)) 4)
  go_wp2_with fail
  go_loopw [6] (fun i wr => ∃ k : Nat, k ≤ n ∧ i = .int .i64 k ∧ Ext w3 wr ∧ Blk wr w3.heap.size 4 (bools (fromU ps k))) (fun i _ => n - (intOf i).toNat)
  case atStart => exact ⟨0, by omega, rfl, hy0, by rw [HF0.out]; exact hG⟩
  case round =>
    clear hG hy0
    obtain ⟨k, hk, rfl, hy, hB⟩ := hrel
    by_cases hlt : k < n
    · have hkp : k < ps.length := by rw [HP.out]; exact hlt
      have k1 : (0 : Int) ≤ k := by omega
      have k2 : (k : Int) < n := by omega
      have hl1 : k < rl.length := by rw [HLR.out]; exact hlt
      have hl2 : k < sl.length := by rw [HLS.out]; exact hlt
      obtain ⟨b1, o1, rfl, _, _⟩ := hP1.at_ (k := k) (by simpa using hl1)
      obtain ⟨b2, o2, rfl, _, _⟩ := hP2.num hl2
      have hr0 : rl.getD k false = rl[k] := by rw [List.getD_eq_getElem?_getD, List.getElem?_eq_getElem hl1]; rfl
      have hs0 : sl.getD k 0 = sl[k] := by rw [List.getD_eq_getElem?_getD, List.getElem?_eq_getElem hl2]; rfl
      have CP := Lib.hid (fun W' (h : Ext w3 W') => (hP1.ext h).cell (k := k) (u := .bool rl[k]) (by simp [hl1]))
      have CS := Lib.hid (fun W' (h : Ext w3 W') => (hP2.ext h).cell (nums_at hl2))
      have f1 := F1.out k hkp
      have rg := RG.out k hkp
      have sn := SN.out k hkp
      have fn := FN.out k
      have hfl := HFL.out k
      have hfl1 := HFL.out (k + 1)
      rw [← rg] at fn
      rw [hr0] at f1 fn sn
      rw [hs0] at sn
      have rz : k = 0 → rl[k] = true := fun e => by rw [← hr0, e]; exact RZ.out (by omega)
      have sz : k = 0 → sl[k] = 0 := fun e => by rw [← hs0, e]; exact SZ.out (by omega)
      have f0 : k = 0 → (setAll (fromU ps k) (nextL ps (k : Int))).set 0 true = fromU ps (k + 1) := fun e => by subst e; exact F0.out (by omega)
      have HN := Lib.hid (HBD.out (k : Int))
      have HC := Lib.hid (N.out (k : Int) wr (HM.out.ext (hx.trans hy)))
      have hnl := nextL_len ps (k : Int)
      clear hr0 hs0 rg
      generalize rl[k] = r at *
      generalize sl[k] = s at *
      generalize nextL ps (k : Int) = ns at *
      generalize fromU ps k = l at *
      generalize hlp : fromU ps (k + 1) = l' at *
      have HLP := Lib.hid hlp
      clear hlp
      have HH := Lib.hid (And.intro f1 (And.intro fn (And.intro sn (And.intro rz (And.intro sz (And.intro f0 (And.intro hfl hfl1)))))))
      clear f1 fn sn rz sz f0 hfl hfl1
      go_wp2_with fail
      refine (HC.out).mono ?_
      rintro e w4 ⟨Q, cQ, rfl, ho, hx'⟩
      have hy2 := hy.trans hx'
      have hB2 := hB.ext hx'
      have hge : wr.heap.size ≤ w4.heap.size := hx'.size
      clear hx' HC hB
      cases r with
      | false =>
        obtain ⟨f1, fn, sn, rz, sz, f0, hfl, hfl1⟩ := HH.out
        have hk0 : k ≠ 0 := fun e => by have := rz e; cases this
        have fn2 := fn hk0
        simp only [Bool.false_eq_true, if_false] at fn2
        subst fn2
        have hs := sn rfl
        subst hs
        have cF := (hB2.cell k).trans (bools_at _ k (by omega))
        have e1 : l'.getD k false = l'[k]'(by omega) := by rw [List.getD_eq_getElem?_getD, List.getElem?_eq_getElem (by omega)]; rfl
        rw [← e1, f1] at cF
        have HB := Lib.hid hB2
        have hkk : ((k : Int) == 0) = false := by simp; omega
        clear f1 fn sn rz sz f0 hfl hfl1 HH e1 hB2 HN ho
        have cP0 := CP.out w4 hy2
        go_wp2_with fail
        go_loopw [8] (fun i wr' => i = .int .i64 0 ∧ wr' = w4) (fun _ _ => 0)
        case atStart => exact ⟨rfl, rfl⟩
        case round =>
          obtain ⟨rfl, rfl⟩ := hrel
          rcases Nat.eq_zero_or_pos ns.length with hl0 | hl0
          · have g0 : ¬ (0 : Int) < ns.length := by omega
            generalize hlen : ns.length = len at *
            clear hlen hl0
            go_wp2_with fail
            have hz := hy2
            refine wp_region_mono rfl ((.is ?va0 : VP) :: (.is ?va1 : VP) :: (.is ?va2 : VP) :: (.is (.bool false) : VP) :: (.is ?va4 : VP) :: (.is ?va5 : VP) :: (.is ?va6 : VP) :: (.is (.bool false) : VP) :: (.is (.bool false) : VP) :: (.is (.bool false) : VP) :: (.is ?va10 : VP) :: (.is ?va11 : VP) :: (.is ?va12 : VP) :: (.is (.bool false) : VP) :: (.is (.bool true) : VP) :: (.is (.bool true) : VP) :: (.is ?va16 : VP) :: (.is ?va17 : VP) :: (.is ?va18 : VP) :: (.is (.int .u16 65535) : VP) :: (.is (.bool false) : VP) :: (.is (.bool false) : VP) :: (.is (.bool false) : VP) :: (.is (.bool false) : VP) :: (.is ?va24 : VP) :: (.is (.bool false) : VP) :: (.is (.bool false) : VP) :: (.is undef : VP) :: (.is undef : VP) :: (.is undef : VP) :: (.is undef : VP) :: (.is undef : VP) :: (.is (.bool false) : VP) :: (.is (.bool false) : VP) :: []) (by kernel_rfl) (by kernel_rfl) ?Aa ?hAa ⟨?oa0, ?oa1, ?oa2, ?oa3, ?oa4, ?oa5, ?oa6, ?oa7, ?oa8, ?oa9, ?oa10, ?oa11, ?oa12, ?oa13, ?oa14, ?oa15, ?oa16, ?oa17, ?oa18, ?oa19, ?oa20, ?oa21, ?oa22, ?oa23, ?oa24, ?oa25, ?oa26, ?oa27, ?oa28, ?oa29, ?oa30, ?oa31, ?oa32, ?oa33, trivial⟩ ?fina
            case hAa => (intro x; simp only [fillOps, Act.put, List.setIfInBounds_toArray, List.set_cons_zero, List.set_cons_succ, Nat.reduceAdd]; rfl)
            case oa0 =>
              intro x U hU
              simp only [depV, One, dstOf, readDst, asBool, VP.is, VP.any, VP.row, VP.ptr, VP.blk, VP.ex, VP.and, VP.of, List.getD_cons_zero, List.getD_cons_succ]
              go_wp2_with (fail)
              refine done_mk ?_ rfl (Ext.refl _)
              rfl
            case oa1 =>
              intro x U hU
              simp only [depV, One, dstOf, readDst, asBool, VP.is, VP.any, VP.row, VP.ptr, VP.blk, VP.ex, VP.and, VP.of, List.getD_cons_zero, List.getD_cons_succ]
              go_wp2_with (fail)
              refine done_mk ?_ rfl (Ext.refl _)
              rfl
            case oa2 =>
              intro x U hU
              simp only [depV, One, dstOf, readDst, asBool, VP.is, VP.any, VP.row, VP.ptr, VP.blk, VP.ex, VP.and, VP.of, List.getD_cons_zero, List.getD_cons_succ]
              intro d0
              intro d1
              simp only [d0, d1]
              go_wp2_with (fail)
              refine done_mk ?_ rfl (Ext.refl _)
              rfl
            case oa3 =>
              intro x U hU
              simp only [depV, One, dstOf, readDst, asBool, VP.is, VP.any, VP.row, VP.ptr, VP.blk, VP.ex, VP.and, VP.of, List.getD_cons_zero, List.getD_cons_succ]
              intro d2
              simp only [d2]
              have h0 := CP.out U (hz.trans hU)
              go_wp2_with (fail)
              refine done_mk ?_ rfl (Ext.refl _)
              rfl
            case oa4 =>
              intro x U hU
              simp only [depV, One, dstOf, readDst, asBool, VP.is, VP.any, VP.row, VP.ptr, VP.blk, VP.ex, VP.and, VP.of, List.getD_cons_zero, List.getD_cons_succ]
              go_wp2_with (fail)
              refine done_mk ?_ rfl (Ext.refl _)
              rfl
            case oa5 =>
              intro x U hU
              simp only [depV, One, dstOf, readDst, asBool, VP.is, VP.any, VP.row, VP.ptr, VP.blk, VP.ex, VP.and, VP.of, List.getD_cons_zero, List.getD_cons_succ]
              go_wp2_with (fail)
              refine done_mk ?_ rfl (Ext.refl _)
              rfl
            case oa6 =>
              intro x U hU
              simp only [depV, One, dstOf, readDst, asBool, VP.is, VP.any, VP.row, VP.ptr, VP.blk, VP.ex, VP.and, VP.of, List.getD_cons_zero, List.getD_cons_succ]
              intro d4
              intro d5
              simp only [d4, d5]
              go_wp2_with (fail)
              refine done_mk ?_ rfl (Ext.refl _)
              rfl
            case oa7 =>
              intro x U hU
              simp only [depV, One, dstOf, readDst, asBool, VP.is, VP.any, VP.row, VP.ptr, VP.blk, VP.ex, VP.and, VP.of, List.getD_cons_zero, List.getD_cons_succ]
              intro d6
              simp only [d6]
              have h0 := hU.cell cF
              go_wp2_with (fail)
              refine done_mk ?_ rfl (Ext.refl _)
              rfl
            case oa8 =>
              intro x U hU
              simp only [depV, One, dstOf, readDst, asBool, VP.is, VP.any, VP.row, VP.ptr, VP.blk, VP.ex, VP.and, VP.of, List.getD_cons_zero, List.getD_cons_succ]
              intro d3
              intro d7
              simp only [d3, d7]
              go_wp2_with (fail)
              refine done_mk ?_ rfl (Ext.refl _)
              rfl
            case oa9 =>
              intro x U hU
              simp only [depV, One, dstOf, readDst, asBool, VP.is, VP.any, VP.row, VP.ptr, VP.blk, VP.ex, VP.and, VP.of, List.getD_cons_zero, List.getD_cons_succ]
              intro d8
              simp only [d8]
              go_wp2_with (fail)
              refine done_mk ?_ rfl (Ext.refl _)
              rfl
            case oa10 =>
              intro x U hU
              simp only [depV, One, dstOf, readDst, asBool, VP.is, VP.any, VP.row, VP.ptr, VP.blk, VP.ex, VP.and, VP.of, List.getD_cons_zero, List.getD_cons_succ]
              intro d9
              simp only [d9]
              refine gcase_run (by first | rfl | simp) ?_
              go_wp2_with (fail)
              refine done_mk ?_ rfl (Ext.refl _)
              rfl
            case oa11 =>
              intro x U hU
              simp only [depV, One, dstOf, readDst, asBool, VP.is, VP.any, VP.row, VP.ptr, VP.blk, VP.ex, VP.and, VP.of, List.getD_cons_zero, List.getD_cons_succ]
              intro d9
              simp only [d9]
              refine gcase_run (by first | rfl | simp) ?_
              go_wp2_with (fail)
              refine done_mk ?_ rfl (Ext.refl _)
              rfl
            case oa12 =>
              intro x U hU
              simp only [depV, One, dstOf, readDst, asBool, VP.is, VP.any, VP.row, VP.ptr, VP.blk, VP.ex, VP.and, VP.of, List.getD_cons_zero, List.getD_cons_succ]
              intro d10
              intro d11
              intro d9
              simp only [d10, d11, d9]
              refine gcase_run (by first | rfl | simp) ?_
              go_wp2_with (fail)
              refine done_mk ?_ rfl (Ext.refl _)
              rfl
            case oa13 =>
              intro x U hU
              simp only [depV, One, dstOf, readDst, asBool, VP.is, VP.any, VP.row, VP.ptr, VP.blk, VP.ex, VP.and, VP.of, List.getD_cons_zero, List.getD_cons_succ]
              intro d12
              intro d9
              simp only [d12, d9]
              refine gcase_run (by first | rfl | simp) ?_
              have h0 := CP.out U (hz.trans hU)
              go_wp2_with (fail)
              refine done_mk ?_ rfl (Ext.refl _)
              rfl
            case oa14 =>
              intro x U hU
              simp only [depV, One, dstOf, readDst, asBool, VP.is, VP.any, VP.row, VP.ptr, VP.blk, VP.ex, VP.and, VP.of, List.getD_cons_zero, List.getD_cons_succ]
              intro d13
              intro d9
              simp only [d13, d9]
              refine gcase_run (by first | rfl | simp) ?_
              go_wp2_with (fail)
              refine done_mk ?_ rfl (Ext.refl _)
              rfl
            case oa15 =>
              intro x U hU
              simp only [depV, One, dstOf, readDst, asBool, VP.is, VP.any, VP.row, VP.ptr, VP.blk, VP.ex, VP.and, VP.of, List.getD_cons_zero, List.getD_cons_succ]
              intro d14
              intro d9
              simp only [d14, d9]
              refine gcase_run (by first | rfl | simp) ?_
              go_wp2_with (fail)
              refine done_mk ?_ rfl (Ext.refl _)
              rfl
            case oa16 =>
              intro x U hU
              simp only [depV, One, dstOf, readDst, asBool, VP.is, VP.any, VP.row, VP.ptr, VP.blk, VP.ex, VP.and, VP.of, List.getD_cons_zero, List.getD_cons_succ]
              intro d15
              simp only [d15]
              refine gcase_run (by first | rfl | simp) ?_
              go_wp2_with (fail)
              refine done_mk ?_ rfl (Ext.refl _)
              rfl
            case oa17 =>
              intro x U hU
              simp only [depV, One, dstOf, readDst, asBool, VP.is, VP.any, VP.row, VP.ptr, VP.blk, VP.ex, VP.and, VP.of, List.getD_cons_zero, List.getD_cons_succ]
              intro d15
              simp only [d15]
              refine gcase_run (by first | rfl | simp) ?_
              go_wp2_with (fail)
              refine done_mk ?_ rfl (Ext.refl _)
              rfl
            case oa18 =>
              intro x U hU
              simp only [depV, One, dstOf, readDst, asBool, VP.is, VP.any, VP.row, VP.ptr, VP.blk, VP.ex, VP.and, VP.of, List.getD_cons_zero, List.getD_cons_succ]
              intro d16
              intro d17
              intro d15
              simp only [d16, d17, d15]
              refine gcase_run (by first | rfl | simp) ?_
              go_wp2_with (fail)
              refine done_mk ?_ rfl (Ext.refl _)
              rfl
            case oa19 =>
              intro x U hU
              simp only [depV, One, dstOf, readDst, asBool, VP.is, VP.any, VP.row, VP.ptr, VP.blk, VP.ex, VP.and, VP.of, List.getD_cons_zero, List.getD_cons_succ]
              intro d18
              intro d15
              simp only [d18, d15]
              refine gcase_run (by first | rfl | simp) ?_
              have h0 := CS.out U (hz.trans hU)
              go_wp2_with (fail)
              refine done_mk ?_ rfl (Ext.refl _)
              rfl
            case oa20 =>
              intro x U hU
              simp only [depV, One, dstOf, readDst, asBool, VP.is, VP.any, VP.row, VP.ptr, VP.blk, VP.ex, VP.and, VP.of, List.getD_cons_zero, List.getD_cons_succ]
              intro d19
              intro d15
              simp only [d19, d15]
              refine gcase_run (by first | rfl | simp) ?_
              go_wp2_with (fail)
              refine done_mk ?_ rfl (Ext.refl _)
              rfl
            case oa21 =>
              intro x U hU
              simp only [depV, One, dstOf, readDst, asBool, VP.is, VP.any, VP.row, VP.ptr, VP.blk, VP.ex, VP.and, VP.of, List.getD_cons_zero, List.getD_cons_succ]
              intro d15
              intro d20
              intro d9
              simp only [d15, d20, d9]
              refine gcase_run (by first | rfl | simp) ?_
              go_wp2_with (fail)
              refine done_mk ?_ rfl (Ext.refl _)
              rfl
            case oa22 =>
              intro x U hU
              simp only [depV, One, dstOf, readDst, asBool, VP.is, VP.any, VP.row, VP.ptr, VP.blk, VP.ex, VP.and, VP.of, List.getD_cons_zero, List.getD_cons_succ]
              intro d9
              intro d21
              simp only [d9, d21]
              go_wp2_with (fail)
              refine done_mk ?_ rfl (Ext.refl _)
              rfl
            case oa23 =>
              intro x U hU
              simp only [depV, One, dstOf, readDst, asBool, VP.is, VP.any, VP.row, VP.ptr, VP.blk, VP.ex, VP.and, VP.of, List.getD_cons_zero, List.getD_cons_succ]
              intro d22
              simp only [d22]
              go_wp2_with (fail)
              refine done_mk ?_ rfl (Ext.refl _)
              rfl
            case oa24 =>
              intro x U hU
              simp only [depV, One, dstOf, readDst, asBool, VP.is, VP.any, VP.row, VP.ptr, VP.blk, VP.ex, VP.and, VP.of, List.getD_cons_zero, List.getD_cons_succ]
              intro d23
              simp only [d23]
              refine gcase_run (by first | rfl | simp) ?_
              go_wp2_with (fail)
              refine done_mk ?_ rfl (Ext.refl _)
              rfl
            case oa25 =>
              intro x U hU
              simp only [depV, One, dstOf, readDst, asBool, VP.is, VP.any, VP.row, VP.ptr, VP.blk, VP.ex, VP.and, VP.of, List.getD_cons_zero, List.getD_cons_succ]
              intro d24
              intro d23
              simp only [d24, d23]
              refine gcase_run (by first | rfl | simp) ?_
              go_wp2_with (fail)
              refine done_mk ?_ rfl (Ext.refl _)
              rfl
            case oa26 =>
              intro x U hU
              simp only [depV, One, dstOf, readDst, asBool, VP.is, VP.any, VP.row, VP.ptr, VP.blk, VP.ex, VP.and, VP.of, List.getD_cons_zero, List.getD_cons_succ]
              intro d25
              intro d23
              simp only [d25, d23]
              refine gcase_run (by first | rfl | simp) ?_
              go_wp2_with (fail)
              refine done_mk ?_ rfl (Ext.refl _)
              rfl
            case oa27 =>
              intro x U hU
              simp only [depV, One, dstOf, readDst, asBool, VP.is, VP.any, VP.row, VP.ptr, VP.blk, VP.ex, VP.and, VP.of, List.getD_cons_zero, List.getD_cons_succ]
              intro d26
              simp only [d26]
              exact gcase_skip (by first | decide | simp) (by first | rfl | trivial)
            case oa28 =>
              intro x U hU
              simp only [depV, One, dstOf, readDst, asBool, VP.is, VP.any, VP.row, VP.ptr, VP.blk, VP.ex, VP.and, VP.of, List.getD_cons_zero, List.getD_cons_succ]
              intro d26
              simp only [d26]
              exact gcase_skip (by first | decide | simp) (by first | rfl | trivial)
            case oa29 =>
              intro x U hU
              simp only [depV, One, dstOf, readDst, asBool, VP.is, VP.any, VP.row, VP.ptr, VP.blk, VP.ex, VP.and, VP.of, List.getD_cons_zero, List.getD_cons_succ]
              intro d27
              intro d28
              intro d26
              simp only [d27, d28, d26]
              exact gcase_skip (by first | decide | simp) (by first | rfl | trivial)
            case oa30 =>
              intro x U hU
              simp only [depV, One, dstOf, readDst, asBool, VP.is, VP.any, VP.row, VP.ptr, VP.blk, VP.ex, VP.and, VP.of, List.getD_cons_zero, List.getD_cons_succ]
              intro d29
              intro d26
              simp only [d29, d26]
              exact gcase_skip (by first | decide | simp) (by first | rfl | trivial)
            case oa31 =>
              intro x U hU
              simp only [depV, One, dstOf, readDst, asBool, VP.is, VP.any, VP.row, VP.ptr, VP.blk, VP.ex, VP.and, VP.of, List.getD_cons_zero, List.getD_cons_succ]
              intro d30
              intro d26
              simp only [d30, d26]
              exact gcase_skip (by first | decide | simp) (by first | rfl | trivial)
            case oa32 =>
              intro x U hU
              simp only [depV, One, dstOf, readDst, asBool, VP.is, VP.any, VP.row, VP.ptr, VP.blk, VP.ex, VP.and, VP.of, List.getD_cons_zero, List.getD_cons_succ]
              intro d26
              intro d31
              intro d23
              simp only [d26, d31, d23]
              refine gcase_run (by first | rfl | simp) ?_
              go_wp2_with (fail)
              refine done_mk ?_ rfl (Ext.refl _)
              rfl
            case oa33 =>
              intro x U hU
              simp only [depV, One, dstOf, readDst, asBool, VP.is, VP.any, VP.row, VP.ptr, VP.blk, VP.ex, VP.and, VP.of, List.getD_cons_zero, List.getD_cons_succ]
              intro d23
              intro d32
              simp only [d23, d32]
              go_wp2_with (fail)
              refine done_mk ?_ rfl (Ext.refl _)
              rfl
            case fina =>
              intro x U hU
              simp only [allV, depV, One, dstOf, readDst, asBool, VP.is, VP.any, VP.row, VP.ptr, VP.blk, VP.ex, VP.and, VP.of, List.getD_cons_zero, List.getD_cons_succ]
              intro d0
              intro d1
              intro d2
              intro d3
              intro d4
              intro d5
              intro d6
              intro d7
              intro d8
              intro d9
              intro d10
              intro d11
              intro d12
              intro d13
              intro d14
              intro d15
              intro d16
              intro d17
              intro d18
              intro d19
              intro d20
              intro d21
              intro d22
              intro d23
              intro d24
              intro d25
              intro d26
              intro d27
              intro d28
              intro d29
              intro d30
              intro d31
              intro d32
              intro d33
              simp only [d0, d1, d2, d3, d4, d5, d6, d7, d8, d9, d10, d11, d12, d13, d14, d15, d16, d17, d18, d19, d20, d21, d22, d23, d24, d25, d26, d27, d28, d29, d30, d31, d32, d33]
              clear d0 d1 d2 d3 d4 d5 d6 d7 d8 d9 d10 d11 d12 d13 d14 d15 d16 d17 d18 d19 d20 d21 d22 d23 d24 d25 d26 d27 d28 d29 d30 d31 d32 d33
              go_wp2
              go_roundw
              case rel => exact ⟨k + 1, by omega, by go_num, hz.trans hU, by rw [HLP.out]; exact HB.out.ext hU⟩
              case measure => simp [intOf]; omega
          · have g0 : (0 : Int) < ns.length := by omega
            generalize hlen : ns.length = len at *
            clear hlen hl0
            go_wp2_with fail
            have hz := hy2
            refine wp_region_mono rfl ((.is ?vb0 : VP) :: (.is ?vb1 : VP) :: (.is ?vb2 : VP) :: (.is (.bool false) : VP) :: (.is ?vb4 : VP) :: (.is ?vb5 : VP) :: (.is ?vb6 : VP) :: (.is (.bool false) : VP) :: (.is (.bool false) : VP) :: (.is (.bool false) : VP) :: (.is ?vb10 : VP) :: (.is ?vb11 : VP) :: (.is ?vb12 : VP) :: (.is (.bool false) : VP) :: (.is (.bool true) : VP) :: (.is (.bool true) : VP) :: (.is ?vb16 : VP) :: (.is ?vb17 : VP) :: (.is ?vb18 : VP) :: (.is (.int .u16 65535) : VP) :: (.is (.bool false) : VP) :: (.is (.bool false) : VP) :: (.is (.bool false) : VP) :: (.is (.bool false) : VP) :: (.is ?vb24 : VP) :: (.is (.bool false) : VP) :: (.is (.bool false) : VP) :: (.is undef : VP) :: (.is undef : VP) :: (.is undef : VP) :: (.is undef : VP) :: (.is undef : VP) :: (.is (.bool false) : VP) :: (.is (.bool false) : VP) :: []) (by kernel_rfl) (by kernel_rfl) ?Ab ?hAb ⟨?ob0, ?ob1, ?ob2, ?ob3, ?ob4, ?ob5, ?ob6, ?ob7, ?ob8, ?ob9, ?ob10, ?ob11, ?ob12, ?ob13, ?ob14, ?ob15, ?ob16, ?ob17, ?ob18, ?ob19, ?ob20, ?ob21, ?ob22, ?ob23, ?ob24, ?ob25, ?ob26, ?ob27, ?ob28, ?ob29, ?ob30, ?ob31, ?ob32, ?ob33, trivial⟩ ?finb
            case hAb => (intro x; simp only [fillOps, Act.put, List.setIfInBounds_toArray, List.set_cons_zero, List.set_cons_succ, Nat.reduceAdd]; rfl)
            case ob0 =>
              intro x U hU
              simp only [depV, One, dstOf, readDst, asBool, VP.is, VP.any, VP.row, VP.ptr, VP.blk, VP.ex, VP.and, VP.of, List.getD_cons_zero, List.getD_cons_succ]
              go_wp2_with (fail)
              refine done_mk ?_ rfl (Ext.refl _)
              rfl
            case ob1 =>
              intro x U hU
              simp only [depV, One, dstOf, readDst, asBool, VP.is, VP.any, VP.row, VP.ptr, VP.blk, VP.ex, VP.and, VP.of, List.getD_cons_zero, List.getD_cons_succ]
              go_wp2_with (fail)
              refine done_mk ?_ rfl (Ext.refl _)
              rfl
            case ob2 =>
              intro x U hU
              simp only [depV, One, dstOf, readDst, asBool, VP.is, VP.any, VP.row, VP.ptr, VP.blk, VP.ex, VP.and, VP.of, List.getD_cons_zero, List.getD_cons_succ]
              intro d0
              intro d1
              simp only [d0, d1]
              go_wp2_with (fail)
              refine done_mk ?_ rfl (Ext.refl _)
              rfl
            case ob3 =>
              intro x U hU
              simp only [depV, One, dstOf, readDst, asBool, VP.is, VP.any, VP.row, VP.ptr, VP.blk, VP.ex, VP.and, VP.of, List.getD_cons_zero, List.getD_cons_succ]
              intro d2
              simp only [d2]
              have h0 := CP.out U (hz.trans hU)
              go_wp2_with (fail)
              refine done_mk ?_ rfl (Ext.refl _)
              rfl
            case ob4 =>
              intro x U hU
              simp only [depV, One, dstOf, readDst, asBool, VP.is, VP.any, VP.row, VP.ptr, VP.blk, VP.ex, VP.and, VP.of, List.getD_cons_zero, List.getD_cons_succ]
              go_wp2_with (fail)
              refine done_mk ?_ rfl (Ext.refl _)
              rfl
            case ob5 =>
              intro x U hU
              simp only [depV, One, dstOf, readDst, asBool, VP.is, VP.any, VP.row, VP.ptr, VP.blk, VP.ex, VP.and, VP.of, List.getD_cons_zero, List.getD_cons_succ]
              go_wp2_with (fail)
              refine done_mk ?_ rfl (Ext.refl _)
              rfl
            case ob6 =>
              intro x U hU
              simp only [depV, One, dstOf, readDst, asBool, VP.is, VP.any, VP.row, VP.ptr, VP.blk, VP.ex, VP.and, VP.of, List.getD_cons_zero, List.getD_cons_succ]
              intro d4
              intro d5
              simp only [d4, d5]
              go_wp2_with (fail)
              refine done_mk ?_ rfl (Ext.refl _)
              rfl
            case ob7 =>
              intro x U hU
              simp only [depV, One, dstOf, readDst, asBool, VP.is, VP.any, VP.row, VP.ptr, VP.blk, VP.ex, VP.and, VP.of, List.getD_cons_zero, List.getD_cons_succ]
              intro d6
              simp only [d6]
              have h0 := hU.cell cF
              go_wp2_with (fail)
              refine done_mk ?_ rfl (Ext.refl _)
              rfl
            case ob8 =>
              intro x U hU
              simp only [depV, One, dstOf, readDst, asBool, VP.is, VP.any, VP.row, VP.ptr, VP.blk, VP.ex, VP.and, VP.of, List.getD_cons_zero, List.getD_cons_succ]
              intro d3
              intro d7
              simp only [d3, d7]
              go_wp2_with (fail)
              refine done_mk ?_ rfl (Ext.refl _)
              rfl
            case ob9 =>
              intro x U hU
              simp only [depV, One, dstOf, readDst, asBool, VP.is, VP.any, VP.row, VP.ptr, VP.blk, VP.ex, VP.and, VP.of, List.getD_cons_zero, List.getD_cons_succ]
              intro d8
              simp only [d8]
              go_wp2_with (fail)
              refine done_mk ?_ rfl (Ext.refl _)
              rfl
            case ob10 =>
              intro x U hU
              simp only [depV, One, dstOf, readDst, asBool, VP.is, VP.any, VP.row, VP.ptr, VP.blk, VP.ex, VP.and, VP.of, List.getD_cons_zero, List.getD_cons_succ]
              intro d9
              simp only [d9]
              refine gcase_run (by first | rfl | simp) ?_
              go_wp2_with (fail)
              refine done_mk ?_ rfl (Ext.refl _)
              rfl
            case ob11 =>
              intro x U hU
              simp only [depV, One, dstOf, readDst, asBool, VP.is, VP.any, VP.row, VP.ptr, VP.blk, VP.ex, VP.and, VP.of, List.getD_cons_zero, List.getD_cons_succ]
              intro d9
              simp only [d9]
              refine gcase_run (by first | rfl | simp) ?_
              go_wp2_with (fail)
              refine done_mk ?_ rfl (Ext.refl _)
              rfl
            case ob12 =>
              intro x U hU
              simp only [depV, One, dstOf, readDst, asBool, VP.is, VP.any, VP.row, VP.ptr, VP.blk, VP.ex, VP.and, VP.of, List.getD_cons_zero, List.getD_cons_succ]
              intro d10
              intro d11
              intro d9
              simp only [d10, d11, d9]
              refine gcase_run (by first | rfl | simp) ?_
              go_wp2_with (fail)
              refine done_mk ?_ rfl (Ext.refl _)
              rfl
            case ob13 =>
              intro x U hU
              simp only [depV, One, dstOf, readDst, asBool, VP.is, VP.any, VP.row, VP.ptr, VP.blk, VP.ex, VP.and, VP.of, List.getD_cons_zero, List.getD_cons_succ]
              intro d12
              intro d9
              simp only [d12, d9]
              refine gcase_run (by first | rfl | simp) ?_
              have h0 := CP.out U (hz.trans hU)
              go_wp2_with (fail)
              refine done_mk ?_ rfl (Ext.refl _)
              rfl
            case ob14 =>
              intro x U hU
              simp only [depV, One, dstOf, readDst, asBool, VP.is, VP.any, VP.row, VP.ptr, VP.blk, VP.ex, VP.and, VP.of, List.getD_cons_zero, List.getD_cons_succ]
              intro d13
              intro d9
              simp only [d13, d9]
              refine gcase_run (by first | rfl | simp) ?_
              go_wp2_with (fail)
              refine done_mk ?_ rfl (Ext.refl _)
              rfl
            case ob15 =>
              intro x U hU
              simp only [depV, One, dstOf, readDst, asBool, VP.is, VP.any, VP.row, VP.ptr, VP.blk, VP.ex, VP.and, VP.of, List.getD_cons_zero, List.getD_cons_succ]
              intro d14
              intro d9
              simp only [d14, d9]
              refine gcase_run (by first | rfl | simp) ?_
              go_wp2_with (fail)
              refine done_mk ?_ rfl (Ext.refl _)
              rfl
            case ob16 =>
              intro x U hU
              simp only [depV, One, dstOf, readDst, asBool, VP.is, VP.any, VP.row, VP.ptr, VP.blk, VP.ex, VP.and, VP.of, List.getD_cons_zero, List.getD_cons_succ]
              intro d15
              simp only [d15]
              refine gcase_run (by first | rfl | simp) ?_
              go_wp2_with (fail)
              refine done_mk ?_ rfl (Ext.refl _)
              rfl
            case ob17 =>
              intro x U hU
              simp only [depV, One, dstOf, readDst, asBool, VP.is, VP.any, VP.row, VP.ptr, VP.blk, VP.ex, VP.and, VP.of, List.getD_cons_zero, List.getD_cons_succ]
              intro d15
              simp only [d15]
              refine gcase_run (by first | rfl | simp) ?_
              go_wp2_with (fail)
              refine done_mk ?_ rfl (Ext.refl _)
              rfl
            case ob18 =>
              intro x U hU
              simp only [depV, One, dstOf, readDst, asBool, VP.is, VP.any, VP.row, VP.ptr, VP.blk, VP.ex, VP.and, VP.of, List.getD_cons_zero, List.getD_cons_succ]
              intro d16
              intro d17
              intro d15
              simp only [d16, d17, d15]
              refine gcase_run (by first | rfl | simp) ?_
              go_wp2_with (fail)
              refine done_mk ?_ rfl (Ext.refl _)
              rfl
            case ob19 =>
              intro x U hU
              simp only [depV, One, dstOf, readDst, asBool, VP.is, VP.any, VP.row, VP.ptr, VP.blk, VP.ex, VP.and, VP.of, List.getD_cons_zero, List.getD_cons_succ]
              intro d18
              intro d15
              simp only [d18, d15]
              refine gcase_run (by first | rfl | simp) ?_
              have h0 := CS.out U (hz.trans hU)
              go_wp2_with (fail)
              refine done_mk ?_ rfl (Ext.refl _)
              rfl
            case ob20 =>
              intro x U hU
              simp only [depV, One, dstOf, readDst, asBool, VP.is, VP.any, VP.row, VP.ptr, VP.blk, VP.ex, VP.and, VP.of, List.getD_cons_zero, List.getD_cons_succ]
              intro d19
              intro d15
              simp only [d19, d15]
              refine gcase_run (by first | rfl | simp) ?_
              go_wp2_with (fail)
              refine done_mk ?_ rfl (Ext.refl _)
              rfl
            case ob21 =>
              intro x U hU
              simp only [depV, One, dstOf, readDst, asBool, VP.is, VP.any, VP.row, VP.ptr, VP.blk, VP.ex, VP.and, VP.of, List.getD_cons_zero, List.getD_cons_succ]
              intro d15
              intro d20
              intro d9
              simp only [d15, d20, d9]
              refine gcase_run (by first | rfl | simp) ?_
              go_wp2_with (fail)
              refine done_mk ?_ rfl (Ext.refl _)
              rfl
            case ob22 =>
              intro x U hU
              simp only [depV, One, dstOf, readDst, asBool, VP.is, VP.any, VP.row, VP.ptr, VP.blk, VP.ex, VP.and, VP.of, List.getD_cons_zero, List.getD_cons_succ]
              intro d9
              intro d21
              simp only [d9, d21]
              go_wp2_with (fail)
              refine done_mk ?_ rfl (Ext.refl _)
              rfl
            case ob23 =>
              intro x U hU
              simp only [depV, One, dstOf, readDst, asBool, VP.is, VP.any, VP.row, VP.ptr, VP.blk, VP.ex, VP.and, VP.of, List.getD_cons_zero, List.getD_cons_succ]
              intro d22
              simp only [d22]
              go_wp2_with (fail)
              refine done_mk ?_ rfl (Ext.refl _)
              rfl
            case ob24 =>
              intro x U hU
              simp only [depV, One, dstOf, readDst, asBool, VP.is, VP.any, VP.row, VP.ptr, VP.blk, VP.ex, VP.and, VP.of, List.getD_cons_zero, List.getD_cons_succ]
              intro d23
              simp only [d23]
              refine gcase_run (by first | rfl | simp) ?_
              go_wp2_with (fail)
              refine done_mk ?_ rfl (Ext.refl _)
              rfl
            case ob25 =>
              intro x U hU
              simp only [depV, One, dstOf, readDst, asBool, VP.is, VP.any, VP.row, VP.ptr, VP.blk, VP.ex, VP.and, VP.of, List.getD_cons_zero, List.getD_cons_succ]
              intro d24
              intro d23
              simp only [d24, d23]
              refine gcase_run (by first | rfl | simp) ?_
              go_wp2_with (fail)
              refine done_mk ?_ rfl (Ext.refl _)
              rfl
            case ob26 =>
              intro x U hU
              simp only [depV, One, dstOf, readDst, asBool, VP.is, VP.any, VP.row, VP.ptr, VP.blk, VP.ex, VP.and, VP.of, List.getD_cons_zero, List.getD_cons_succ]
              intro d25
              intro d23
              simp only [d25, d23]
              refine gcase_run (by first | rfl | simp) ?_
              go_wp2_with (fail)
              refine done_mk ?_ rfl (Ext.refl _)
              rfl
            case ob27 =>
              intro x U hU
              simp only [depV, One, dstOf, readDst, asBool, VP.is, VP.any, VP.row, VP.ptr, VP.blk, VP.ex, VP.and, VP.of, List.getD_cons_zero, List.getD_cons_succ]
              intro d26
              simp only [d26]
              exact gcase_skip (by first | decide | simp) (by first | rfl | trivial)
            case ob28 =>
              intro x U hU
              simp only [depV, One, dstOf, readDst, asBool, VP.is, VP.any, VP.row, VP.ptr, VP.blk, VP.ex, VP.and, VP.of, List.getD_cons_zero, List.getD_cons_succ]
              intro d26
              simp only [d26]
              exact gcase_skip (by first | decide | simp) (by first | rfl | trivial)
            case ob29 =>
              intro x U hU
              simp only [depV, One, dstOf, readDst, asBool, VP.is, VP.any, VP.row, VP.ptr, VP.blk, VP.ex, VP.and, VP.of, List.getD_cons_zero, List.getD_cons_succ]
              intro d27
              intro d28
              intro d26
              simp only [d27, d28, d26]
              exact gcase_skip (by first | decide | simp) (by first | rfl | trivial)
            case ob30 =>
              intro x U hU
              simp only [depV, One, dstOf, readDst, asBool, VP.is, VP.any, VP.row, VP.ptr, VP.blk, VP.ex, VP.and, VP.of, List.getD_cons_zero, List.getD_cons_succ]
              intro d29
              intro d26
              simp only [d29, d26]
              exact gcase_skip (by first | decide | simp) (by first | rfl | trivial)
            case ob31 =>
              intro x U hU
              simp only [depV, One, dstOf, readDst, asBool, VP.is, VP.any, VP.row, VP.ptr, VP.blk, VP.ex, VP.and, VP.of, List.getD_cons_zero, List.getD_cons_succ]
              intro d30
              intro d26
              simp only [d30, d26]
              exact gcase_skip (by first | decide | simp) (by first | rfl | trivial)
            case ob32 =>
              intro x U hU
              simp only [depV, One, dstOf, readDst, asBool, VP.is, VP.any, VP.row, VP.ptr, VP.blk, VP.ex, VP.and, VP.of, List.getD_cons_zero, List.getD_cons_succ]
              intro d26
              intro d31
              intro d23
              simp only [d26, d31, d23]
              refine gcase_run (by first | rfl | simp) ?_
              go_wp2_with (fail)
              refine done_mk ?_ rfl (Ext.refl _)
              rfl
            case ob33 =>
              intro x U hU
              simp only [depV, One, dstOf, readDst, asBool, VP.is, VP.any, VP.row, VP.ptr, VP.blk, VP.ex, VP.and, VP.of, List.getD_cons_zero, List.getD_cons_succ]
              intro d23
              intro d32
              simp only [d23, d32]
              go_wp2_with (fail)
              refine done_mk ?_ rfl (Ext.refl _)
              rfl
            case finb =>
              intro x U hU
              simp only [allV, depV, One, dstOf, readDst, asBool, VP.is, VP.any, VP.row, VP.ptr, VP.blk, VP.ex, VP.and, VP.of, List.getD_cons_zero, List.getD_cons_succ]
              intro d0
              intro d1
              intro d2
              intro d3
              intro d4
              intro d5
              intro d6
              intro d7
              intro d8
              intro d9
              intro d10
              intro d11
              intro d12
              intro d13
              intro d14
              intro d15
              intro d16
              intro d17
              intro d18
              intro d19
              intro d20
              intro d21
              intro d22
              intro d23
              intro d24
              intro d25
              intro d26
              intro d27
              intro d28
              intro d29
              intro d30
              intro d31
              intro d32
              intro d33
              simp only [d0, d1, d2, d3, d4, d5, d6, d7, d8, d9, d10, d11, d12, d13, d14, d15, d16, d17, d18, d19, d20, d21, d22, d23, d24, d25, d26, d27, d28, d29, d30, d31, d32, d33]
              clear d0 d1 d2 d3 d4 d5 d6 d7 d8 d9 d10 d11 d12 d13 d14 d15 d16 d17 d18 d19 d20 d21 d22 d23 d24 d25 d26 d27 d28 d29 d30 d31 d32 d33
              go_wp2
              go_roundw
              case rel => exact ⟨k + 1, by omega, by go_num, hz.trans hU, by rw [HLP.out]; exact HB.out.ext hU⟩
              case measure => simp [intOf]; omega
      | true =>
        have HO0 := Lib.hid ho
        have hfl0 := HH.out.2.2.2.2.2.2.1
        have HFLk := Lib.hid hfl0
        clear hfl0
        have HB := Lib.hid hB2
        clear hB2
        go_wp2_with fail
        go_loopw [8] (fun i wr' => ∃ j : Nat, j ≤ ns.length ∧ i = .int .i64 j ∧ Ext w3 wr' ∧ Blk wr' w3.heap.size 4 (bools (setAll l (ns.take j))) ∧ wr'.ownsRow wr.heap.size 3 1 (.slice Q ns.length cQ) ns.length (nums .i64 ns)) (fun i _ => ns.length - (intOf i).toNat)
        case atStart => exact ⟨0, by omega, rfl, hy2, HB.out, HO0.out⟩
        case round =>
          clear ho hy2 HB HO0
          obtain ⟨j, hj, rfl, hz, hB, ho⟩ := hrel
          have hge2 := hy.size
          by_cases hjl : j < ns.length
          · obtain ⟨gp, cap, hP, _⟩ := ho.form (by omega)
            simp only [Value.slice.injEq] at hP
            obtain ⟨rfl, -, rfl⟩ := hP
            have hc := (own_inM ho).cell (nums_at hjl)
            obtain ⟨e1, e2, e3⟩ := HN.out ns[j] (List.getElem_mem hjl)
            have HT := Lib.hid (setAll_take l ns j hjl)
            have hsl : (setAll l (ns.take j)).length = n := by rw [setAll_length, HFLk.out]
            obtain ⟨z, hz'⟩ : ∃ z : Nat, ns[j] = (z : Int) := ⟨ns[j].toNat, by omega⟩
            rw [hz'] at hc e1 e2 e3 HT
            rw [Int.toNat_natCast] at HT
            have hzl : z < (setAll l (ns.take j)).length := by rw [hsl]; have := HP.out; omega
            obtain ⟨bz, cz⟩ : ∃ b, wr.cell? ⟨w3.heap.size, z, none⟩ = some (.bool b) := ⟨_, (hB.cell z).trans (bools_at _ z hzl)⟩
            have fz := hB.frozen z
            have z1 : ¬ (z : Int) ≤ k := by omega
            have z2 : (z : Int) < n := by have := HP.out; omega
            have z3 : ¬ (n : Int) ≤ z := by omega
            have cP0 := CP.out wr hz
            have HU2 := Lib.hid (hB.set_ z (.bool true))
            have HX2 := Lib.hid (Ext.set hz (p := ⟨w3.heap.size, z, none⟩) (Nat.le_refl _) (.bool true))
            have HO2 := Lib.hid (own_apart_blk ho hB (by decide) (grown_set _ w3.heap.size z (.bool true)))
            have j1 : (0 : Int) ≤ j := by omega
            have j2 : (j : Int) < ns.length := by omega
            simp only [Nat.zero_add] at hc
            clear hz' hB ho hsl hzl hz
            go_wp2_with fail
            go_roundw
            case rel => exact ⟨j + 1, by omega, by go_num, HX2.out, by rw [HT.out, ← bools_set]; exact HU2.out, HO2.out⟩
            case measure => simp [intOf]; omega
          · obtain rfl : j = ns.length := by omega
            rw [List.take_length] at hB
            obtain ⟨f1, fn, sn, rz, sz, f0, hfl, hfl1⟩ := HH.out
            clear ho
            by_cases hk0 : k = 0
            · have f0' := f0 hk0
              have hs := sz hk0
              subst hs
              subst hk0
              obtain ⟨bz, c0⟩ : ∃ b, wr.cell? ⟨w3.heap.size, 0, none⟩ = some (.bool b) := ⟨_, (hB.cell 0).trans (bools_at _ 0 (by rw [setAll_length]; omega))⟩
              have ff0 := hB.frozen 0
              have hB3 := hB.set_ 0 (.bool true)
              rw [bools_set, f0'] at hB3
              have hz3 := Ext.set hz (p := ⟨w3.heap.size, 0, none⟩) (Nat.le_refl _) (.bool true)
              have cF := (hB3.cell 0).trans (bools_at _ 0 (by omega))
              have e1 : l'.getD 0 false = l'[0]'(by omega) := by rw [List.getD_eq_getElem?_getD, List.getElem?_eq_getElem (by omega)]; rfl
              rw [← e1, f1] at cF
              have HB3 := Lib.hid hB3
              have HZ3 := Lib.hid hz3
              have HCF := Lib.hid cF
              clear f1 fn sn rz sz f0 f0' hfl hfl1 HH e1 hB hB3 hz3 cF HN HFLk hy hz
              go_wp2_with fail
              have hz := HZ3.out
              have cF := HCF.out
              generalize wr.setCell ⟨w3.heap.size, 0, none⟩ (.bool true) = w7 at *
              refine wp_region_mono rfl ((.is ?vc0 : VP) :: (.is ?vc1 : VP) :: (.is ?vc2 : VP) :: (.is (.bool true) : VP) :: (.is ?vc4 : VP) :: (.is ?vc5 : VP) :: (.is ?vc6 : VP) :: (.is (.bool true) : VP) :: (.is (.bool false) : VP) :: (.is (.bool false) : VP) :: (.is ?vc10 : VP) :: (.is ?vc11 : VP) :: (.is ?vc12 : VP) :: (.is (.bool true) : VP) :: (.is (.bool false) : VP) :: (.is (.bool false) : VP) :: (.is undef : VP) :: (.is undef : VP) :: (.is undef : VP) :: (.is undef : VP) :: (.is undef : VP) :: (.is (.bool false) : VP) :: (.is (.bool false) : VP) :: (.is (.bool false) : VP) :: (.is ?vc24 : VP) :: (.is (.bool true) : VP) :: (.is (.bool true) : VP) :: (.is ?vc27 : VP) :: (.is ?vc28 : VP) :: (.is ?vc29 : VP) :: (.is (.int .u16 0) : VP) :: (.is (.bool false) : VP) :: (.is (.bool false) : VP) :: (.is (.bool false) : VP) :: []) (by kernel_rfl) (by kernel_rfl) ?Ac ?hAc ⟨?oc0, ?oc1, ?oc2, ?oc3, ?oc4, ?oc5, ?oc6, ?oc7, ?oc8, ?oc9, ?oc10, ?oc11, ?oc12, ?oc13, ?oc14, ?oc15, ?oc16, ?oc17, ?oc18, ?oc19, ?oc20, ?oc21, ?oc22, ?oc23, ?oc24, ?oc25, ?oc26, ?oc27, ?oc28, ?oc29, ?oc30, ?oc31, ?oc32, ?oc33, trivial⟩ ?finc
              case hAc => (intro x; simp only [fillOps, Act.put, List.setIfInBounds_toArray, List.set_cons_zero, List.set_cons_succ, Nat.reduceAdd]; rfl)
              case oc0 =>
                intro x U hU
                simp only [depV, One, dstOf, readDst, asBool, VP.is, VP.any, VP.row, VP.ptr, VP.blk, VP.ex, VP.and, VP.of, List.getD_cons_zero, List.getD_cons_succ]
                go_wp2_with (fail)
                refine done_mk ?_ rfl (Ext.refl _)
                rfl
              case oc1 =>
                intro x U hU
                simp only [depV, One, dstOf, readDst, asBool, VP.is, VP.any, VP.row, VP.ptr, VP.blk, VP.ex, VP.and, VP.of, List.getD_cons_zero, List.getD_cons_succ]
                go_wp2_with (fail)
                refine done_mk ?_ rfl (Ext.refl _)
                rfl
              case oc2 =>
                intro x U hU
                simp only [depV, One, dstOf, readDst, asBool, VP.is, VP.any, VP.row, VP.ptr, VP.blk, VP.ex, VP.and, VP.of, List.getD_cons_zero, List.getD_cons_succ]
                intro d0
                intro d1
                simp only [d0, d1]
                go_wp2_with (fail)
                refine done_mk ?_ rfl (Ext.refl _)
                rfl
              case oc3 =>
                intro x U hU
                simp only [depV, One, dstOf, readDst, asBool, VP.is, VP.any, VP.row, VP.ptr, VP.blk, VP.ex, VP.and, VP.of, List.getD_cons_zero, List.getD_cons_succ]
                intro d2
                simp only [d2]
                have h0 := CP.out U (hz.trans hU)
                simp only [Nat.add_zero] at h0
                go_wp2_with (fail)
                refine done_mk ?_ rfl (Ext.refl _)
                rfl
              case oc4 =>
                intro x U hU
                simp only [depV, One, dstOf, readDst, asBool, VP.is, VP.any, VP.row, VP.ptr, VP.blk, VP.ex, VP.and, VP.of, List.getD_cons_zero, List.getD_cons_succ]
                go_wp2_with (fail)
                refine done_mk ?_ rfl (Ext.refl _)
                rfl
              case oc5 =>
                intro x U hU
                simp only [depV, One, dstOf, readDst, asBool, VP.is, VP.any, VP.row, VP.ptr, VP.blk, VP.ex, VP.and, VP.of, List.getD_cons_zero, List.getD_cons_succ]
                go_wp2_with (fail)
                refine done_mk ?_ rfl (Ext.refl _)
                rfl
              case oc6 =>
                intro x U hU
                simp only [depV, One, dstOf, readDst, asBool, VP.is, VP.any, VP.row, VP.ptr, VP.blk, VP.ex, VP.and, VP.of, List.getD_cons_zero, List.getD_cons_succ]
                intro d4
                intro d5
                simp only [d4, d5]
                go_wp2_with (fail)
                refine done_mk ?_ rfl (Ext.refl _)
                rfl
              case oc7 =>
                intro x U hU
                simp only [depV, One, dstOf, readDst, asBool, VP.is, VP.any, VP.row, VP.ptr, VP.blk, VP.ex, VP.and, VP.of, List.getD_cons_zero, List.getD_cons_succ]
                intro d6
                simp only [d6]
                have h0 := hU.cell cF
                go_wp2_with (fail)
                refine done_mk ?_ rfl (Ext.refl _)
                rfl
              case oc8 =>
                intro x U hU
                simp only [depV, One, dstOf, readDst, asBool, VP.is, VP.any, VP.row, VP.ptr, VP.blk, VP.ex, VP.and, VP.of, List.getD_cons_zero, List.getD_cons_succ]
                intro d3
                intro d7
                simp only [d3, d7]
                go_wp2_with (fail)
                refine done_mk ?_ rfl (Ext.refl _)
                rfl
              case oc9 =>
                intro x U hU
                simp only [depV, One, dstOf, readDst, asBool, VP.is, VP.any, VP.row, VP.ptr, VP.blk, VP.ex, VP.and, VP.of, List.getD_cons_zero, List.getD_cons_succ]
                intro d8
                simp only [d8]
                go_wp2_with (fail)
                refine done_mk ?_ rfl (Ext.refl _)
                rfl
              case oc10 =>
                intro x U hU
                simp only [depV, One, dstOf, readDst, asBool, VP.is, VP.any, VP.row, VP.ptr, VP.blk, VP.ex, VP.and, VP.of, List.getD_cons_zero, List.getD_cons_succ]
                intro d9
                simp only [d9]
                refine gcase_run (by first | rfl | simp) ?_
                go_wp2_with (fail)
                refine done_mk ?_ rfl (Ext.refl _)
                rfl
              case oc11 =>
                intro x U hU
                simp only [depV, One, dstOf, readDst, asBool, VP.is, VP.any, VP.row, VP.ptr, VP.blk, VP.ex, VP.and, VP.of, List.getD_cons_zero, List.getD_cons_succ]
                intro d9
                simp only [d9]
                refine gcase_run (by first | rfl | simp) ?_
                go_wp2_with (fail)
                refine done_mk ?_ rfl (Ext.refl _)
                rfl
              case oc12 =>
                intro x U hU
                simp only [depV, One, dstOf, readDst, asBool, VP.is, VP.any, VP.row, VP.ptr, VP.blk, VP.ex, VP.and, VP.of, List.getD_cons_zero, List.getD_cons_succ]
                intro d10
                intro d11
                intro d9
                simp only [d10, d11, d9]
                refine gcase_run (by first | rfl | simp) ?_
                go_wp2_with (fail)
                refine done_mk ?_ rfl (Ext.refl _)
                rfl
              case oc13 =>
                intro x U hU
                simp only [depV, One, dstOf, readDst, asBool, VP.is, VP.any, VP.row, VP.ptr, VP.blk, VP.ex, VP.and, VP.of, List.getD_cons_zero, List.getD_cons_succ]
                intro d12
                intro d9
                simp only [d12, d9]
                refine gcase_run (by first | rfl | simp) ?_
                have h0 := CP.out U (hz.trans hU)
                simp only [Nat.add_zero] at h0
                go_wp2_with (fail)
                refine done_mk ?_ rfl (Ext.refl _)
                rfl
              case oc14 =>
                intro x U hU
                simp only [depV, One, dstOf, readDst, asBool, VP.is, VP.any, VP.row, VP.ptr, VP.blk, VP.ex, VP.and, VP.of, List.getD_cons_zero, List.getD_cons_succ]
                intro d13
                intro d9
                simp only [d13, d9]
                refine gcase_run (by first | rfl | simp) ?_
                go_wp2_with (fail)
                refine done_mk ?_ rfl (Ext.refl _)
                rfl
              case oc15 =>
                intro x U hU
                simp only [depV, One, dstOf, readDst, asBool, VP.is, VP.any, VP.row, VP.ptr, VP.blk, VP.ex, VP.and, VP.of, List.getD_cons_zero, List.getD_cons_succ]
                intro d14
                intro d9
                simp only [d14, d9]
                refine gcase_run (by first | rfl | simp) ?_
                go_wp2_with (fail)
                refine done_mk ?_ rfl (Ext.refl _)
                rfl
              case oc16 =>
                intro x U hU
                simp only [depV, One, dstOf, readDst, asBool, VP.is, VP.any, VP.row, VP.ptr, VP.blk, VP.ex, VP.and, VP.of, List.getD_cons_zero, List.getD_cons_succ]
                intro d15
                simp only [d15]
                exact gcase_skip (by first | decide | simp) (by first | rfl | trivial)
              case oc17 =>
                intro x U hU
                simp only [depV, One, dstOf, readDst, asBool, VP.is, VP.any, VP.row, VP.ptr, VP.blk, VP.ex, VP.and, VP.of, List.getD_cons_zero, List.getD_cons_succ]
                intro d15
                simp only [d15]
                exact gcase_skip (by first | decide | simp) (by first | rfl | trivial)
              case oc18 =>
                intro x U hU
                simp only [depV, One, dstOf, readDst, asBool, VP.is, VP.any, VP.row, VP.ptr, VP.blk, VP.ex, VP.and, VP.of, List.getD_cons_zero, List.getD_cons_succ]
                intro d16
                intro d17
                intro d15
                simp only [d16, d17, d15]
                exact gcase_skip (by first | decide | simp) (by first | rfl | trivial)
              case oc19 =>
                intro x U hU
                simp only [depV, One, dstOf, readDst, asBool, VP.is, VP.any, VP.row, VP.ptr, VP.blk, VP.ex, VP.and, VP.of, List.getD_cons_zero, List.getD_cons_succ]
                intro d18
                intro d15
                simp only [d18, d15]
                exact gcase_skip (by first | decide | simp) (by first | rfl | trivial)
              case oc20 =>
                intro x U hU
                simp only [depV, One, dstOf, readDst, asBool, VP.is, VP.any, VP.row, VP.ptr, VP.blk, VP.ex, VP.and, VP.of, List.getD_cons_zero, List.getD_cons_succ]
                intro d19
                intro d15
                simp only [d19, d15]
                exact gcase_skip (by first | decide | simp) (by first | rfl | trivial)
              case oc21 =>
                intro x U hU
                simp only [depV, One, dstOf, readDst, asBool, VP.is, VP.any, VP.row, VP.ptr, VP.blk, VP.ex, VP.and, VP.of, List.getD_cons_zero, List.getD_cons_succ]
                intro d15
                intro d20
                intro d9
                simp only [d15, d20, d9]
                refine gcase_run (by first | rfl | simp) ?_
                go_wp2_with (fail)
                refine done_mk ?_ rfl (Ext.refl _)
                rfl
              case oc22 =>
                intro x U hU
                simp only [depV, One, dstOf, readDst, asBool, VP.is, VP.any, VP.row, VP.ptr, VP.blk, VP.ex, VP.and, VP.of, List.getD_cons_zero, List.getD_cons_succ]
                intro d9
                intro d21
                simp only [d9, d21]
                go_wp2_with (fail)
                refine done_mk ?_ rfl (Ext.refl _)
                rfl
              case oc23 =>
                intro x U hU
                simp only [depV, One, dstOf, readDst, asBool, VP.is, VP.any, VP.row, VP.ptr, VP.blk, VP.ex, VP.and, VP.of, List.getD_cons_zero, List.getD_cons_succ]
                intro d22
                simp only [d22]
                go_wp2_with (fail)
                refine done_mk ?_ rfl (Ext.refl _)
                rfl
              case oc24 =>
                intro x U hU
                simp only [depV, One, dstOf, readDst, asBool, VP.is, VP.any, VP.row, VP.ptr, VP.blk, VP.ex, VP.and, VP.of, List.getD_cons_zero, List.getD_cons_succ]
                intro d23
                simp only [d23]
                refine gcase_run (by first | rfl | simp) ?_
                go_wp2_with (fail)
                refine done_mk ?_ rfl (Ext.refl _)
                rfl
              case oc25 =>
                intro x U hU
                simp only [depV, One, dstOf, readDst, asBool, VP.is, VP.any, VP.row, VP.ptr, VP.blk, VP.ex, VP.and, VP.of, List.getD_cons_zero, List.getD_cons_succ]
                intro d24
                intro d23
                simp only [d24, d23]
                refine gcase_run (by first | rfl | simp) ?_
                go_wp2_with (fail)
                refine done_mk ?_ rfl (Ext.refl _)
                rfl
              case oc26 =>
                intro x U hU
                simp only [depV, One, dstOf, readDst, asBool, VP.is, VP.any, VP.row, VP.ptr, VP.blk, VP.ex, VP.and, VP.of, List.getD_cons_zero, List.getD_cons_succ]
                intro d25
                intro d23
                simp only [d25, d23]
                refine gcase_run (by first | rfl | simp) ?_
                go_wp2_with (fail)
                refine done_mk ?_ rfl (Ext.refl _)
                rfl
              case oc27 =>
                intro x U hU
                simp only [depV, One, dstOf, readDst, asBool, VP.is, VP.any, VP.row, VP.ptr, VP.blk, VP.ex, VP.and, VP.of, List.getD_cons_zero, List.getD_cons_succ]
                intro d26
                simp only [d26]
                refine gcase_run (by first | rfl | simp) ?_
                go_wp2_with (fail)
                refine done_mk ?_ rfl (Ext.refl _)
                rfl
              case oc28 =>
                intro x U hU
                simp only [depV, One, dstOf, readDst, asBool, VP.is, VP.any, VP.row, VP.ptr, VP.blk, VP.ex, VP.and, VP.of, List.getD_cons_zero, List.getD_cons_succ]
                intro d26
                simp only [d26]
                refine gcase_run (by first | rfl | simp) ?_
                go_wp2_with (fail)
                refine done_mk ?_ rfl (Ext.refl _)
                rfl
              case oc29 =>
                intro x U hU
                simp only [depV, One, dstOf, readDst, asBool, VP.is, VP.any, VP.row, VP.ptr, VP.blk, VP.ex, VP.and, VP.of, List.getD_cons_zero, List.getD_cons_succ]
                intro d27
                intro d28
                intro d26
                simp only [d27, d28, d26]
                refine gcase_run (by first | rfl | simp) ?_
                go_wp2_with (fail)
                refine done_mk ?_ rfl (Ext.refl _)
                rfl
              case oc30 =>
                intro x U hU
                simp only [depV, One, dstOf, readDst, asBool, VP.is, VP.any, VP.row, VP.ptr, VP.blk, VP.ex, VP.and, VP.of, List.getD_cons_zero, List.getD_cons_succ]
                intro d29
                intro d26
                simp only [d29, d26]
                refine gcase_run (by first | rfl | simp) ?_
                have h0 := CS.out U (hz.trans hU)
                simp only [Nat.add_zero] at h0
                go_wp2_with (fail)
                refine done_mk ?_ rfl (Ext.refl _)
                rfl
              case oc31 =>
                intro x U hU
                simp only [depV, One, dstOf, readDst, asBool, VP.is, VP.any, VP.row, VP.ptr, VP.blk, VP.ex, VP.and, VP.of, List.getD_cons_zero, List.getD_cons_succ]
                intro d30
                intro d26
                simp only [d30, d26]
                refine gcase_run (by first | rfl | simp) ?_
                go_wp2_with (fail)
                refine done_mk ?_ rfl (Ext.refl _)
                rfl
              case oc32 =>
                intro x U hU
                simp only [depV, One, dstOf, readDst, asBool, VP.is, VP.any, VP.row, VP.ptr, VP.blk, VP.ex, VP.and, VP.of, List.getD_cons_zero, List.getD_cons_succ]
                intro d26
                intro d31
                intro d23
                simp only [d26, d31, d23]
                refine gcase_run (by first | rfl | simp) ?_
                go_wp2_with (fail)
                refine done_mk ?_ rfl (Ext.refl _)
                rfl
              case oc33 =>
                intro x U hU
                simp only [depV, One, dstOf, readDst, asBool, VP.is, VP.any, VP.row, VP.ptr, VP.blk, VP.ex, VP.and, VP.of, List.getD_cons_zero, List.getD_cons_succ]
                intro d23
                intro d32
                simp only [d23, d32]
                go_wp2_with (fail)
                refine done_mk ?_ rfl (Ext.refl _)
                rfl
              case finc =>
                intro x U hU
                simp only [allV, depV, One, dstOf, readDst, asBool, VP.is, VP.any, VP.row, VP.ptr, VP.blk, VP.ex, VP.and, VP.of, List.getD_cons_zero, List.getD_cons_succ]
                intro d0
                intro d1
                intro d2
                intro d3
                intro d4
                intro d5
                intro d6
                intro d7
                intro d8
                intro d9
                intro d10
                intro d11
                intro d12
                intro d13
                intro d14
                intro d15
                intro d16
                intro d17
                intro d18
                intro d19
                intro d20
                intro d21
                intro d22
                intro d23
                intro d24
                intro d25
                intro d26
                intro d27
                intro d28
                intro d29
                intro d30
                intro d31
                intro d32
                intro d33
                simp only [d0, d1, d2, d3, d4, d5, d6, d7, d8, d9, d10, d11, d12, d13, d14, d15, d16, d17, d18, d19, d20, d21, d22, d23, d24, d25, d26, d27, d28, d29, d30, d31, d32, d33]
                clear d0 d1 d2 d3 d4 d5 d6 d7 d8 d9 d10 d11 d12 d13 d14 d15 d16 d17 d18 d19 d20 d21 d22 d23 d24 d25 d26 d27 d28 d29 d30 d31 d32 d33
                go_wp2
                go_roundw
                case rel => exact ⟨1, by omega, by go_num, hz.trans hU, by first | (rw [HLP.out]; exact HB3.out.ext hU) | (have e := HLP.out; rw [Nat.zero_add] at e; rw [e]; exact HB3.out.ext hU)⟩
                case measure => simp [intOf]; omega
            · have fn2 := fn hk0
              simp only [if_true] at fn2
              rw [← fn2] at hB
              have cF := (hB.cell k).trans (bools_at _ k (by omega))
              have e1 : l'.getD k false = l'[k]'(by omega) := by rw [List.getD_eq_getElem?_getD, List.getElem?_eq_getElem (by omega)]; rfl
              rw [← e1, f1] at cF
              have HB3 := Lib.hid hB
              have hkk : ((k : Int) == 0) = false := by simp; omega
              clear f1 fn fn2 sn rz sz f0 hfl hfl1 HH e1 hB HN HFLk hk0
              go_wp2_with fail
              refine wp_region_mono rfl ((.is ?vd0 : VP) :: (.is ?vd1 : VP) :: (.is ?vd2 : VP) :: (.is (.bool true) : VP) :: (.is ?vd4 : VP) :: (.is ?vd5 : VP) :: (.is ?vd6 : VP) :: (.is (.bool true) : VP) :: (.is (.bool false) : VP) :: (.is (.bool false) : VP) :: (.is ?vd10 : VP) :: (.is ?vd11 : VP) :: (.is ?vd12 : VP) :: (.is (.bool true) : VP) :: (.is (.bool false) : VP) :: (.is (.bool false) : VP) :: (.is undef : VP) :: (.is undef : VP) :: (.is undef : VP) :: (.is undef : VP) :: (.is undef : VP) :: (.is (.bool false) : VP) :: (.is (.bool false) : VP) :: (.is (.bool false) : VP) :: (.is ?vd24 : VP) :: (.is (.bool false) : VP) :: (.is (.bool false) : VP) :: (.is undef : VP) :: (.is undef : VP) :: (.is undef : VP) :: (.is undef : VP) :: (.is undef : VP) :: (.is (.bool false) : VP) :: (.is (.bool false) : VP) :: []) (by kernel_rfl) (by kernel_rfl) ?Ad ?hAd ⟨?od0, ?od1, ?od2, ?od3, ?od4, ?od5, ?od6, ?od7, ?od8, ?od9, ?od10, ?od11, ?od12, ?od13, ?od14, ?od15, ?od16, ?od17, ?od18, ?od19, ?od20, ?od21, ?od22, ?od23, ?od24, ?od25, ?od26, ?od27, ?od28, ?od29, ?od30, ?od31, ?od32, ?od33, trivial⟩ ?find
              case hAd => (intro x; simp only [fillOps, Act.put, List.setIfInBounds_toArray, List.set_cons_zero, List.set_cons_succ, Nat.reduceAdd]; rfl)
              case od0 =>
                intro x U hU
                simp only [depV, One, dstOf, readDst, asBool, VP.is, VP.any, VP.row, VP.ptr, VP.blk, VP.ex, VP.and, VP.of, List.getD_cons_zero, List.getD_cons_succ]
                go_wp2_with (fail)
                refine done_mk ?_ rfl (Ext.refl _)
                rfl
              case od1 =>
                intro x U hU
                simp only [depV, One, dstOf, readDst, asBool, VP.is, VP.any, VP.row, VP.ptr, VP.blk, VP.ex, VP.and, VP.of, List.getD_cons_zero, List.getD_cons_succ]
                go_wp2_with (fail)
                refine done_mk ?_ rfl (Ext.refl _)
                rfl
              case od2 =>
                intro x U hU
                simp only [depV, One, dstOf, readDst, asBool, VP.is, VP.any, VP.row, VP.ptr, VP.blk, VP.ex, VP.and, VP.of, List.getD_cons_zero, List.getD_cons_succ]
                intro d0
                intro d1
                simp only [d0, d1]
                go_wp2_with (fail)
                refine done_mk ?_ rfl (Ext.refl _)
                rfl
              case od3 =>
                intro x U hU
                simp only [depV, One, dstOf, readDst, asBool, VP.is, VP.any, VP.row, VP.ptr, VP.blk, VP.ex, VP.and, VP.of, List.getD_cons_zero, List.getD_cons_succ]
                intro d2
                simp only [d2]
                have h0 := CP.out U (hz.trans hU)
                go_wp2_with (fail)
                refine done_mk ?_ rfl (Ext.refl _)
                rfl
              case od4 =>
                intro x U hU
                simp only [depV, One, dstOf, readDst, asBool, VP.is, VP.any, VP.row, VP.ptr, VP.blk, VP.ex, VP.and, VP.of, List.getD_cons_zero, List.getD_cons_succ]
                go_wp2_with (fail)
                refine done_mk ?_ rfl (Ext.refl _)
                rfl
              case od5 =>
                intro x U hU
                simp only [depV, One, dstOf, readDst, asBool, VP.is, VP.any, VP.row, VP.ptr, VP.blk, VP.ex, VP.and, VP.of, List.getD_cons_zero, List.getD_cons_succ]
                go_wp2_with (fail)
                refine done_mk ?_ rfl (Ext.refl _)
                rfl
              case od6 =>
                intro x U hU
                simp only [depV, One, dstOf, readDst, asBool, VP.is, VP.any, VP.row, VP.ptr, VP.blk, VP.ex, VP.and, VP.of, List.getD_cons_zero, List.getD_cons_succ]
                intro d4
                intro d5
                simp only [d4, d5]
                go_wp2_with (fail)
                refine done_mk ?_ rfl (Ext.refl _)
                rfl
              case od7 =>
                intro x U hU
                simp only [depV, One, dstOf, readDst, asBool, VP.is, VP.any, VP.row, VP.ptr, VP.blk, VP.ex, VP.and, VP.of, List.getD_cons_zero, List.getD_cons_succ]
                intro d6
                simp only [d6]
                have h0 := hU.cell cF
                go_wp2_with (fail)
                refine done_mk ?_ rfl (Ext.refl _)
                rfl
              case od8 =>
                intro x U hU
                simp only [depV, One, dstOf, readDst, asBool, VP.is, VP.any, VP.row, VP.ptr, VP.blk, VP.ex, VP.and, VP.of, List.getD_cons_zero, List.getD_cons_succ]
                intro d3
                intro d7
                simp only [d3, d7]
                go_wp2_with (fail)
                refine done_mk ?_ rfl (Ext.refl _)
                rfl
              case od9 =>
                intro x U hU
                simp only [depV, One, dstOf, readDst, asBool, VP.is, VP.any, VP.row, VP.ptr, VP.blk, VP.ex, VP.and, VP.of, List.getD_cons_zero, List.getD_cons_succ]
                intro d8
                simp only [d8]
                go_wp2_with (fail)
                refine done_mk ?_ rfl (Ext.refl _)
                rfl
              case od10 =>
                intro x U hU
                simp only [depV, One, dstOf, readDst, asBool, VP.is, VP.any, VP.row, VP.ptr, VP.blk, VP.ex, VP.and, VP.of, List.getD_cons_zero, List.getD_cons_succ]
                intro d9
                simp only [d9]
                refine gcase_run (by first | rfl | simp) ?_
                go_wp2_with (fail)
                refine done_mk ?_ rfl (Ext.refl _)
                rfl
              case od11 =>
                intro x U hU
                simp only [depV, One, dstOf, readDst, asBool, VP.is, VP.any, VP.row, VP.ptr, VP.blk, VP.ex, VP.and, VP.of, List.getD_cons_zero, List.getD_cons_succ]
                intro d9
                simp only [d9]
                refine gcase_run (by first | rfl | simp) ?_
                go_wp2_with (fail)
                refine done_mk ?_ rfl (Ext.refl _)
                rfl
              case od12 =>
                intro x U hU
                simp only [depV, One, dstOf, readDst, asBool, VP.is, VP.any, VP.row, VP.ptr, VP.blk, VP.ex, VP.and, VP.of, List.getD_cons_zero, List.getD_cons_succ]
                intro d10
                intro d11
                intro d9
                simp only [d10, d11, d9]
                refine gcase_run (by first | rfl | simp) ?_
                go_wp2_with (fail)
                refine done_mk ?_ rfl (Ext.refl _)
                rfl
              case od13 =>
                intro x U hU
                simp only [depV, One, dstOf, readDst, asBool, VP.is, VP.any, VP.row, VP.ptr, VP.blk, VP.ex, VP.and, VP.of, List.getD_cons_zero, List.getD_cons_succ]
                intro d12
                intro d9
                simp only [d12, d9]
                refine gcase_run (by first | rfl | simp) ?_
                have h0 := CP.out U (hz.trans hU)
                go_wp2_with (fail)
                refine done_mk ?_ rfl (Ext.refl _)
                rfl
              case od14 =>
                intro x U hU
                simp only [depV, One, dstOf, readDst, asBool, VP.is, VP.any, VP.row, VP.ptr, VP.blk, VP.ex, VP.and, VP.of, List.getD_cons_zero, List.getD_cons_succ]
                intro d13
                intro d9
                simp only [d13, d9]
                refine gcase_run (by first | rfl | simp) ?_
                go_wp2_with (fail)
                refine done_mk ?_ rfl (Ext.refl _)
                rfl
              case od15 =>
                intro x U hU
                simp only [depV, One, dstOf, readDst, asBool, VP.is, VP.any, VP.row, VP.ptr, VP.blk, VP.ex, VP.and, VP.of, List.getD_cons_zero, List.getD_cons_succ]
                intro d14
                intro d9
                simp only [d14, d9]
                refine gcase_run (by first | rfl | simp) ?_
                go_wp2_with (fail)
                refine done_mk ?_ rfl (Ext.refl _)
                rfl
              case od16 =>
                intro x U hU
                simp only [depV, One, dstOf, readDst, asBool, VP.is, VP.any, VP.row, VP.ptr, VP.blk, VP.ex, VP.and, VP.of, List.getD_cons_zero, List.getD_cons_succ]
                intro d15
                simp only [d15]
                exact gcase_skip (by first | decide | simp) (by first | rfl | trivial)
              case od17 =>
                intro x U hU
                simp only [depV, One, dstOf, readDst, asBool, VP.is, VP.any, VP.row, VP.ptr, VP.blk, VP.ex, VP.and, VP.of, List.getD_cons_zero, List.getD_cons_succ]
                intro d15
                simp only [d15]
                exact gcase_skip (by first | decide | simp) (by first | rfl | trivial)
              case od18 =>
                intro x U hU
                simp only [depV, One, dstOf, readDst, asBool, VP.is, VP.any, VP.row, VP.ptr, VP.blk, VP.ex, VP.and, VP.of, List.getD_cons_zero, List.getD_cons_succ]
                intro d16
                intro d17
                intro d15
                simp only [d16, d17, d15]
                exact gcase_skip (by first | decide | simp) (by first | rfl | trivial)
              case od19 =>
                intro x U hU
                simp only [depV, One, dstOf, readDst, asBool, VP.is, VP.any, VP.row, VP.ptr, VP.blk, VP.ex, VP.and, VP.of, List.getD_cons_zero, List.getD_cons_succ]
                intro d18
                intro d15
                simp only [d18, d15]
                exact gcase_skip (by first | decide | simp) (by first | rfl | trivial)
              case od20 =>
                intro x U hU
                simp only [depV, One, dstOf, readDst, asBool, VP.is, VP.any, VP.row, VP.ptr, VP.blk, VP.ex, VP.and, VP.of, List.getD_cons_zero, List.getD_cons_succ]
                intro d19
                intro d15
                simp only [d19, d15]
                exact gcase_skip (by first | decide | simp) (by first | rfl | trivial)
              case od21 =>
                intro x U hU
                simp only [depV, One, dstOf, readDst, asBool, VP.is, VP.any, VP.row, VP.ptr, VP.blk, VP.ex, VP.and, VP.of, List.getD_cons_zero, List.getD_cons_succ]
                intro d15
                intro d20
                intro d9
                simp only [d15, d20, d9]
                refine gcase_run (by first | rfl | simp) ?_
                go_wp2_with (fail)
                refine done_mk ?_ rfl (Ext.refl _)
                rfl
              case od22 =>
                intro x U hU
                simp only [depV, One, dstOf, readDst, asBool, VP.is, VP.any, VP.row, VP.ptr, VP.blk, VP.ex, VP.and, VP.of, List.getD_cons_zero, List.getD_cons_succ]
                intro d9
                intro d21
                simp only [d9, d21]
                go_wp2_with (fail)
                refine done_mk ?_ rfl (Ext.refl _)
                rfl
              case od23 =>
                intro x U hU
                simp only [depV, One, dstOf, readDst, asBool, VP.is, VP.any, VP.row, VP.ptr, VP.blk, VP.ex, VP.and, VP.of, List.getD_cons_zero, List.getD_cons_succ]
                intro d22
                simp only [d22]
                go_wp2_with (fail)
                refine done_mk ?_ rfl (Ext.refl _)
                rfl
              case od24 =>
                intro x U hU
                simp only [depV, One, dstOf, readDst, asBool, VP.is, VP.any, VP.row, VP.ptr, VP.blk, VP.ex, VP.and, VP.of, List.getD_cons_zero, List.getD_cons_succ]
                intro d23
                simp only [d23]
                refine gcase_run (by first | rfl | simp) ?_
                go_wp2_with (fail)
                refine done_mk ?_ rfl (Ext.refl _)
                rfl
              case od25 =>
                intro x U hU
                simp only [depV, One, dstOf, readDst, asBool, VP.is, VP.any, VP.row, VP.ptr, VP.blk, VP.ex, VP.and, VP.of, List.getD_cons_zero, List.getD_cons_succ]
                intro d24
                intro d23
                simp only [d24, d23]
                refine gcase_run (by first | rfl | simp) ?_
                go_wp2_with (fail)
                refine done_mk ?_ rfl (Ext.refl _)
                rfl
              case od26 =>
                intro x U hU
                simp only [depV, One, dstOf, readDst, asBool, VP.is, VP.any, VP.row, VP.ptr, VP.blk, VP.ex, VP.and, VP.of, List.getD_cons_zero, List.getD_cons_succ]
                intro d25
                intro d23
                simp only [d25, d23]
                refine gcase_run (by first | rfl | simp) ?_
                go_wp2_with (fail)
                refine done_mk ?_ rfl (Ext.refl _)
                rfl
              case od27 =>
                intro x U hU
                simp only [depV, One, dstOf, readDst, asBool, VP.is, VP.any, VP.row, VP.ptr, VP.blk, VP.ex, VP.and, VP.of, List.getD_cons_zero, List.getD_cons_succ]
                intro d26
                simp only [d26]
                exact gcase_skip (by first | decide | simp) (by first | rfl | trivial)
              case od28 =>
                intro x U hU
                simp only [depV, One, dstOf, readDst, asBool, VP.is, VP.any, VP.row, VP.ptr, VP.blk, VP.ex, VP.and, VP.of, List.getD_cons_zero, List.getD_cons_succ]
                intro d26
                simp only [d26]
                exact gcase_skip (by first | decide | simp) (by first | rfl | trivial)
              case od29 =>
                intro x U hU
                simp only [depV, One, dstOf, readDst, asBool, VP.is, VP.any, VP.row, VP.ptr, VP.blk, VP.ex, VP.and, VP.of, List.getD_cons_zero, List.getD_cons_succ]
                intro d27
                intro d28
                intro d26
                simp only [d27, d28, d26]
                exact gcase_skip (by first | decide | simp) (by first | rfl | trivial)
              case od30 =>
                intro x U hU
                simp only [depV, One, dstOf, readDst, asBool, VP.is, VP.any, VP.row, VP.ptr, VP.blk, VP.ex, VP.and, VP.of, List.getD_cons_zero, List.getD_cons_succ]
                intro d29
                intro d26
                simp only [d29, d26]
                exact gcase_skip (by first | decide | simp) (by first | rfl | trivial)
              case od31 =>
                intro x U hU
                simp only [depV, One, dstOf, readDst, asBool, VP.is, VP.any, VP.row, VP.ptr, VP.blk, VP.ex, VP.and, VP.of, List.getD_cons_zero, List.getD_cons_succ]
                intro d30
                intro d26
                simp only [d30, d26]
                exact gcase_skip (by first | decide | simp) (by first | rfl | trivial)
              case od32 =>
                intro x U hU
                simp only [depV, One, dstOf, readDst, asBool, VP.is, VP.any, VP.row, VP.ptr, VP.blk, VP.ex, VP.and, VP.of, List.getD_cons_zero, List.getD_cons_succ]
                intro d26
                intro d31
                intro d23
                simp only [d26, d31, d23]
                refine gcase_run (by first | rfl | simp) ?_
                go_wp2_with (fail)
                refine done_mk ?_ rfl (Ext.refl _)
                rfl
              case od33 =>
                intro x U hU
                simp only [depV, One, dstOf, readDst, asBool, VP.is, VP.any, VP.row, VP.ptr, VP.blk, VP.ex, VP.and, VP.of, List.getD_cons_zero, List.getD_cons_succ]
                intro d23
                intro d32
                simp only [d23, d32]
                go_wp2_with (fail)
                refine done_mk ?_ rfl (Ext.refl _)
                rfl
              case find =>
                intro x U hU
                simp only [allV, depV, One, dstOf, readDst, asBool, VP.is, VP.any, VP.row, VP.ptr, VP.blk, VP.ex, VP.and, VP.of, List.getD_cons_zero, List.getD_cons_succ]
                intro d0
                intro d1
                intro d2
                intro d3
                intro d4
                intro d5
                intro d6
                intro d7
                intro d8
                intro d9
                intro d10
                intro d11
                intro d12
                intro d13
                intro d14
                intro d15
                intro d16
                intro d17
                intro d18
                intro d19
                intro d20
                intro d21
                intro d22
                intro d23
                intro d24
                intro d25
                intro d26
                intro d27
                intro d28
                intro d29
                intro d30
                intro d31
                intro d32
                intro d33
                simp only [d0, d1, d2, d3, d4, d5, d6, d7, d8, d9, d10, d11, d12, d13, d14, d15, d16, d17, d18, d19, d20, d21, d22, d23, d24, d25, d26, d27, d28, d29, d30, d31, d32, d33]
                clear d0 d1 d2 d3 d4 d5 d6 d7 d8 d9 d10 d11 d12 d13 d14 d15 d16 d17 d18 d19 d20 d21 d22 d23 d24 d25 d26 d27 d28 d29 d30 d31 d32 d33
                go_wp2
                go_roundw
                case rel => exact ⟨k + 1, by omega, by go_num, hz.trans hU, by first | (rw [HLP.out]; exact HB3.out.ext hU) | (have e := HLP.out; rw [Nat.zero_add] at e; rw [e]; exact HB3.out.ext hU)⟩
                case measure => simp [intOf]; omega
    · obtain rfl : k = n := by omega
      go_wp2
      go_ret
      exact ⟨rfl, hx.trans hy⟩
end Go.Proofs.Ytplpffcolcjboaa
