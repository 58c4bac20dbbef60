import Derived.Test.YtlicndonhmcmmaaWalkWords2
namespace Go.Proofs.Ytlicndonhmcmmaa
open Go.RowKit Go.ChangeShapes Go.WideShapes
set_option linter.unusedVariables false

theorem gv_shift (us bs : List Int) (k : Nat) (a : Int) (h : 0 ≤ a) : gv (us ++ bs) ((us.length : Int) + a) k = gv bs a k ∧ gb (us ++ bs).length ((us.length : Int) + a) k = gb bs.length a k := by
  have e : gb (us ++ bs).length ((us.length : Int) + a) k = gb bs.length a k := by
    unfold gb
    rw [List.length_append, decide_eq_decide]
    omega
  refine ⟨?_, e⟩
  unfold gv
  rw [e]
  by_cases h2 : gb bs.length a k = true
  · rw [if_pos h2, if_pos h2]
    unfold getB
    rw [show ((us.length : Int) + a).toNat = us.length + a.toNat from by omega, List.drop_append, List.drop_eq_nil_of_le (by omega), List.nil_append, Nat.add_sub_cancel_left]
  · rw [if_neg h2, if_neg h2]
theorem gv_front (us bs : List Int) (k : Nat) (a : Int) (h : gb us.length a k = true) : gv (us ++ bs) a k = gv us a k ∧ gb (us ++ bs).length a k = true := by
  have h1 : 0 ≤ a ∧ a ≤ (us.length : Int) - k := by simpa [gb] using h
  have e : gb (us ++ bs).length a k = true := gb_yes (by rw [List.length_append]; omega)
  refine ⟨?_, e⟩
  unfold gv
  rw [if_pos e, if_pos h]
  unfold getB
  rw [List.drop_append_of_le_length (by omega), List.take_append_of_le_length (by rw [List.length_drop]; omega)]

set_option maxHeartbeats 1000000 in
theorem wordsShift_walk (A : Option Addr) (n c : Nat) (xs : List Int) (hn : xs.length = n) (hm : n ≤ c ∧ c ≤ maxLen) (hB : Byt xs) {W : World} (hM : InM W A (nums .u8 xs))
    (A' : Option Addr) (n' c' : Nat) (ys : List Int) (hn' : ys.length = n') (hm' : n' ≤ c' ∧ c' ≤ maxLen) (hB' : Byt ys) (hM' : InM W A' (nums .u8 ys)) (a : Int) (ha : (Lit.int .i64 a).wf = true) (_ : World) :
    Calls Try.prog 12 #[.slice A n c, .slice A' n' c', .int .i64 a] W fun e w' => e = .returned (.bool true) ∧ Ext W w' := by
  clear hm hm' ha
  by_cases t1 : (100 : Int) < n
  · go_enter Try.func12, Try.ntmps12
    go_wp2_with (go_at_call 39; refine (awake01 W).mono ?_; rintro e w1 ⟨rfl, hx1⟩)
    go_ret
    exact ⟨rfl, hx1⟩
  have d1 : decide ((100 : Int) < n) = false := by simp; omega
  by_cases t2 : (100 : Int) < n'
  · have d2 : decide ((100 : Int) < n') = true := by simp; omega
    go_enter Try.func12, Try.ntmps12
    go_wp2_with (go_at_call 39; refine (awake01 W).mono ?_; rintro e w1 ⟨rfl, hx1⟩)
    go_ret
    exact ⟨rfl, hx1⟩
  have d2 : decide ((100 : Int) < n') = false := by simp; omega
  by_cases t3 : a < 0
  · have d3 : decide (a < 0) = true := by simp; omega
    go_enter Try.func12, Try.ntmps12
    go_wp2_with (go_at_call 39; refine (awake01 W).mono ?_; rintro e w1 ⟨rfl, hx1⟩)
    go_ret
    exact ⟨rfl, hx1⟩
  have d3 : decide (a < 0) = false := by simp; omega
  by_cases t4 : 200 < a
  · have d4 : decide (200 < a) = true := by simp; omega
    go_enter Try.func12, Try.ntmps12
    go_wp2_with (go_at_call 39; refine (awake01 W).mono ?_; rintro e w1 ⟨rfl, hx1⟩)
    go_ret
    exact ⟨rfl, hx1⟩
  have d4 : decide (200 < a) = false := by simp; omega
  have b1 : n ≤ 100 := by omega
  have b2 : n' ≤ 100 := by omega
  have b3 : 0 ≤ a := by omega
  have b4 : a ≤ 200 := by omega
  clear t1 t2 t3 t4
  have s1 := gv_shift xs ys 4 a b3
  rw [List.length_append, hn, hn'] at s1
  have s2 := gv_front ys xs 4 a
  rw [List.length_append, hn, hn'] at s2
  have Hs1 := Lib.hid s1.1; have Hs2 := Lib.hid s1.2; have Hs3 := Lib.hid s2
  have Hn := Lib.hid hn; have Hn' := Lib.hid hn'
  have Hla : Hid ((xs ++ ys).length = n + n') := by show _ = _; rw [List.length_append, hn, hn']
  have Hlb : Hid ((ys ++ xs).length = n' + n) := by show _ = _; rw [List.length_append, hn, hn']
  clear s1 s2 hn hn'
  have ev : (gv ys a 4 == gv ys a 4) = true := by simp
  cases hgb : gb n' a 4
  all_goals
    have HG := Lib.hid hgb
    clear hgb
    go_enter Try.func12, Try.ntmps12
    go_wp2_with fail
    refine (awake01 W).mono ?_
    rintro e w1 ⟨rfl, hx1⟩
    have g1 := (hM.ext hx1).ext ((Ext.refl w1).alloc (.cells #[.slice A n c, .slice A' n' c'] 23))
    have g2 := (hM'.ext hx1).ext ((Ext.refl w1).alloc (.cells #[.slice A n c, .slice A' n' c'] 23))
    go_wp2_with fail
    refine (cat2 _ A A' n c n' c' xs ys _ (inM_new rfl) Hn.out Hn'.out g1 g2 (by omega)).mono ?_
    rintro e w2 ⟨C, k, rfl, hm2, hx2⟩
    go_wp2_with fail
    refine (keep (get32_any C (n + n') k _ (xs ++ ys) w2 Hla.out (by omega) (hB.append hB') hm2)).mono ?_
    rintro e w3 ⟨rfl, hx3⟩
    rw [Hs1.out, Hs2.out]
    have hy := (hx1.trans hx2.one).trans hx3
    go_wp2_with fail
    refine (keep (get32_any A' n' c' a ys w3 Hn'.out (by omega) hB' (hM'.ext hy))).mono ?_
    rintro e w4 ⟨rfl, hx4⟩
    have hy4 := hy.trans hx4
    have g1 := (hM.ext hy4).ext ((Ext.refl w4).alloc (.cells #[.slice A' n' c', .slice A n c] 23))
    have g2 := (hM'.ext hy4).ext ((Ext.refl w4).alloc (.cells #[.slice A' n' c', .slice A n c] 23))
    go_wp2_with fail
    refine (cat2 _ A' A n' c' n c ys xs _ (inM_new rfl) Hn'.out Hn.out g2 g1 (by omega)).mono ?_
    rintro e w5 ⟨C5, k5, rfl, hm5, hx5⟩
    go_wp2_with fail
    refine (keep (get32_any C5 (n' + n) k5 a (ys ++ xs) w5 Hlb.out (by omega) (hB'.append hB) hm5)).mono ?_
    rintro e w6 ⟨rfl, hx6⟩
    rw [HG.out]
    have hy6 := (hy4.trans hx5.one).trans hx6
    first
      | (go_wp2_with fail
         go_ret
         exact ⟨rfl, hy6⟩)
      | (rw [(Hs3.out HG.out).1, (Hs3.out HG.out).2]
         go_wp2_with fail
         go_ret
         exact ⟨rfl, hy6⟩)

set_option maxHeartbeats 1000000 in
theorem wordsBack_walk (x : Int) (hx : (Lit.int .u64 x).wf = true) (A : Option Addr) (n c : Nat) (xs : List Int) (hn : xs.length = n) (hm : n ≤ c ∧ c ≤ maxLen) (hB : Byt xs) {W : World} (hM : InM W A (nums .u8 xs))
    (a : Int) (ha : (Lit.int .i64 a).wf = true) (_ : World) :
    Calls Try.prog 7 #[.int .u64 x, .slice A n c, .int .i64 a] W fun e w' => e = .returned (.bool true) ∧ Ext W w' := by
  have hc := hm.1
  obtain ⟨x0, x1⟩ := wf_u64 hx
  clear hm ha hx
  by_cases t1 : (100 : Int) < n
  · go_enter Try.func7, Try.ntmps7
    go_wp2_with (go_at_call 39; refine (awake01 W).mono ?_; rintro e w1 ⟨rfl, hx1⟩)
    go_ret
    exact ⟨rfl, hx1⟩
  have b1 : n ≤ 100 := by omega
  have X1 := Lib.hid x1; clear x1
  have v2 := Lib.hid (getB_leB (n := 2) (y := x % 65536) (by omega) (by omega))
  have v4 := Lib.hid (getB_leB (n := 4) (y := x % 4294967296) (by omega) (by omega))
  have v8 := Lib.hid (getB_leB (n := 8) (y := x) x0 X1.out)
  have ew : x % 4294967296 + 4294967296 * (x / 4294967296) = x := by omega
  have EW := Lib.hid ew; clear ew
  have ex : (x != x) = false := by simp
  have Hn := Lib.hid hn; clear hn
  by_cases hgb : 0 ≤ a ∧ a ≤ (n : Int) - (8 : Nat)
  · obtain ⟨k, rfl⟩ := Int.eq_ofNat_of_zero_le hgb.1
    have hk : k + 8 ≤ n := by omega
    have i1 : (0 : Int) ≤ (k : Int) := by omega
    have i2 : (k : Int) ≤ (n : Int) - 8 := by omega
    have i3 : (k : Int) ≤ (k : Int) + 8 := by omega
    have i4 : (k : Int) + 8 ≤ (c : Int) := by omega
    have d1 : decide ((0 : Int) ≤ (k : Int)) = true := by simp
    have d2 : decide ((k : Int) ≤ (n : Int) - 8) = true := by simp; omega
    clear hgb t1
    have hg := getB_bd hB k 8
    obtain ⟨b, off, rfl, hbl, _⟩ := hM.num (k := k) (by rw [Hn.out]; omega)
    have hd : leB 8 (getB xs k 8) = (xs.drop k).take 8 := by
      have := leB_leN ((xs.drop k).take 8) ((hB.drop k).take 8)
      rwa [List.length_take, List.length_drop, Hn.out, show min 8 (n - k) = 8 from by omega] at this
    have HD := Lib.hid hd; clear hd
    have Hl8 : Hid (((xs.drop k).take 8).length = 8) := by show _ = _; rw [List.length_take, List.length_drop, Hn.out]; omega
    go_enter Try.func7, Try.ntmps7
    go_wp2_with fail
    refine (awake01 W).mono ?_
    rintro e w1 ⟨rfl, hx1⟩
    go_wp2_with fail
    refine (put16_own (x % 65536) _ (by omega) (by omega)).mono ?_
    rintro e w2 ⟨rfl, hm2, hx2⟩
    go_wp2_with fail
    refine (keep (get16_ok _ 2 2 0 (leB 2 (x % 65536)) w2 (leB_length _ _) (by omega) (leB_byt _ _) hm2 (by omega))).mono ?_
    rintro e w3 ⟨rfl, hx3⟩
    rw [v2.out]
    go_wp2_with fail
    refine (put32_own (x % 4294967296) _ (by omega) (by omega)).mono ?_
    rintro e w4 ⟨rfl, hm4, hx4⟩
    go_wp2_with fail
    refine (keep (get32_ok _ 4 4 0 (leB 4 (x % 4294967296)) w4 (leB_length _ _) (by omega) (leB_byt _ _) hm4 (by omega))).mono ?_
    rintro e w5 ⟨rfl, hx5⟩
    rw [v4.out]
    go_wp2_with fail
    refine (put64_own x _ x0 X1.out).mono ?_
    rintro e w6 ⟨rfl, hm6, hx6⟩
    go_wp2_with fail
    refine (keep (get64_ok _ 8 8 0 (leB 8 x) w6 (leB_length _ _) (by omega) (leB_byt _ _) hm6 (by omega))).mono ?_
    rintro e w7 ⟨rfl, hx7⟩
    rw [v8.out]
    go_wp2_with fail
    refine (keep (halves x w7 x0 X1.out)).mono ?_
    rintro e w8 ⟨rfl, hx8⟩
    go_wp2_with fail
    refine (keep (whole (x % 4294967296) (x / 4294967296) w8 (by omega) (by have := X1.out; omega))).mono ?_
    rintro e w9 ⟨rfl, hx9⟩
    rw [EW.out]
    have hy := ((((hx1.trans hx2).trans hx3).trans (hx4.trans hx5)).trans ((hx6.trans hx7).trans hx8)).trans hx9
    go_wp2_with fail
    refine (keep (get64_ok _ n c k xs w9 Hn.out (by omega) hB (hM.ext hy) hk)).mono ?_
    rintro e w10 ⟨rfl, hx10⟩
    have hy10 := hy.trans hx10
    go_wp2_with fail
    have s1 : IntKind.i64.wrap ((n : Int) - 8) = (n : Int) - 8 := IntWalk.i64_in _ (by omega)
    have s2 : IntKind.i64.wrap ((k : Int) + 8) = (k : Int) + 8 := IntWalk.i64_in _ (by omega)
    have s3 : ((k : Int) + 8).toNat - k = 8 := by omega
    go_region_held3 (fun _ => True) (trivial) (first | (go_at_call 23; refine (put64_own (getB xs k 8) _ hg.1 hg.2).mono ?_; rintro e w11 ⟨rfl, hm11, hx11⟩) | (go_at_call 40; refine (keep (wordsSame _ _ 8 8 8 (c - k) (leB 8 (getB xs k 8)) ((xs.drop k).take 8) _ (leB_length _ _) Hl8.out (leB_byt _ _) ((hB.drop k).take 8) hm11 ((hM.ext (hy10.drew.trans hx11)).seg k 8))).mono ?_; rintro e w12 ⟨rfl, hx12⟩))
    rw [HD.out, decide_eq_true rfl]
    go_wp2
    go_ret
    exact ⟨rfl, (hy10.drew.trans hx11).trans hx12⟩
  · have hno : a < 0 ∨ (n : Int) - 8 < a := by omega
    by_cases hneg : a < 0
    · have d1 : decide (a < 0) = true := by simp; omega
      clear hgb
      go_enter Try.func7, Try.ntmps7
      go_wp2_with fail
      refine (awake01 W).mono ?_
      rintro e w1 ⟨rfl, hx1⟩
      go_wp2_with fail
      refine (put16_own (x % 65536) _ (by omega) (by omega)).mono ?_
      rintro e w2 ⟨rfl, hm2, hx2⟩
      go_wp2_with fail
      refine (keep (get16_ok _ 2 2 0 (leB 2 (x % 65536)) w2 (leB_length _ _) (by omega) (leB_byt _ _) hm2 (by omega))).mono ?_
      rintro e w3 ⟨rfl, hx3⟩
      rw [v2.out]
      go_wp2_with fail
      refine (put32_own (x % 4294967296) _ (by omega) (by omega)).mono ?_
      rintro e w4 ⟨rfl, hm4, hx4⟩
      go_wp2_with fail
      refine (keep (get32_ok _ 4 4 0 (leB 4 (x % 4294967296)) w4 (leB_length _ _) (by omega) (leB_byt _ _) hm4 (by omega))).mono ?_
      rintro e w5 ⟨rfl, hx5⟩
      rw [v4.out]
      go_wp2_with fail
      refine (put64_own x _ x0 X1.out).mono ?_
      rintro e w6 ⟨rfl, hm6, hx6⟩
      go_wp2_with fail
      refine (keep (get64_ok _ 8 8 0 (leB 8 x) w6 (leB_length _ _) (by omega) (leB_byt _ _) hm6 (by omega))).mono ?_
      rintro e w7 ⟨rfl, hx7⟩
      rw [v8.out]
      go_wp2_with fail
      refine (keep (halves x w7 x0 X1.out)).mono ?_
      rintro e w8 ⟨rfl, hx8⟩
      go_wp2_with fail
      refine (keep (whole (x % 4294967296) (x / 4294967296) w8 (by omega) (by have := X1.out; omega))).mono ?_
      rintro e w9 ⟨rfl, hx9⟩
      rw [EW.out]
      have hy := ((((hx1.trans hx2).trans hx3).trans (hx4.trans hx5)).trans ((hx6.trans hx7).trans hx8)).trans hx9
      go_wp2_with fail
      refine (keep (get64_no _ n c a w9 (by omega) hno)).mono ?_
      rintro e w10 ⟨rfl, hx10⟩
      go_wp2
      go_ret
      exact ⟨rfl, hy.trans hx10⟩
    · have d1 : decide (a < 0) = false := by simp; omega
      have d2 : decide ((n : Int) - 8 < a) = true := by simp; omega
      clear hgb
      go_enter Try.func7, Try.ntmps7
      go_wp2_with fail
      refine (awake01 W).mono ?_
      rintro e w1 ⟨rfl, hx1⟩
      go_wp2_with fail
      refine (put16_own (x % 65536) _ (by omega) (by omega)).mono ?_
      rintro e w2 ⟨rfl, hm2, hx2⟩
      go_wp2_with fail
      refine (keep (get16_ok _ 2 2 0 (leB 2 (x % 65536)) w2 (leB_length _ _) (by omega) (leB_byt _ _) hm2 (by omega))).mono ?_
      rintro e w3 ⟨rfl, hx3⟩
      rw [v2.out]
      go_wp2_with fail
      refine (put32_own (x % 4294967296) _ (by omega) (by omega)).mono ?_
      rintro e w4 ⟨rfl, hm4, hx4⟩
      go_wp2_with fail
      refine (keep (get32_ok _ 4 4 0 (leB 4 (x % 4294967296)) w4 (leB_length _ _) (by omega) (leB_byt _ _) hm4 (by omega))).mono ?_
      rintro e w5 ⟨rfl, hx5⟩
      rw [v4.out]
      go_wp2_with fail
      refine (put64_own x _ x0 X1.out).mono ?_
      rintro e w6 ⟨rfl, hm6, hx6⟩
      go_wp2_with fail
      refine (keep (get64_ok _ 8 8 0 (leB 8 x) w6 (leB_length _ _) (by omega) (leB_byt _ _) hm6 (by omega))).mono ?_
      rintro e w7 ⟨rfl, hx7⟩
      rw [v8.out]
      go_wp2_with fail
      refine (keep (halves x w7 x0 X1.out)).mono ?_
      rintro e w8 ⟨rfl, hx8⟩
      go_wp2_with fail
      refine (keep (whole (x % 4294967296) (x / 4294967296) w8 (by omega) (by have := X1.out; omega))).mono ?_
      rintro e w9 ⟨rfl, hx9⟩
      rw [EW.out]
      have hy := ((((hx1.trans hx2).trans hx3).trans (hx4.trans hx5)).trans ((hx6.trans hx7).trans hx8)).trans hx9
      go_wp2_with fail
      refine (keep (get64_no _ n c a w9 (by omega) hno)).mono ?_
      rintro e w10 ⟨rfl, hx10⟩
      go_wp2
      go_ret
      exact ⟨rfl, hy.trans hx10⟩
end Go.Proofs.Ytlicndonhmcmmaa
