import Derived.Test.YtlicndonhmcmmaaWalkWords
namespace Go.Proofs.Ytlicndonhmcmmaa
open Go.RowKit Go.ChangeShapes Go.WideShapes
set_option linter.unusedVariables false

theorem inM_new {w : World} {t : TypeId} {cs : Array Value} {xs : List Value} (e : cs.toList = xs) : InM (w.alloc (.cells cs t)) (some ⟨w.heap.size, 0, none⟩) xs := InM.ofBlk (Blk.new w t cs) e
theorem byt_lit {bs : List Int} (h : bs.all (fun x => decide (0 ≤ x ∧ x < 256)) = true) : Byt bs := fun x hx => by
  have := List.all_eq_true.1 h x hx
  simpa using this

/-- A contract that leaves the world alone, its world under a name of its own. -/
theorem keep {P : Program} {f : FuncId} {args : Array Value} {w : World} {x : Ending} (h : Calls P f args w fun e w' => e = x ∧ w = w') : Calls P f args w fun e w' => e = x ∧ Ext w w' :=
  h.mono fun e w' ⟨he, hw⟩ => ⟨he, hw ▸ Ext.refl w⟩
theorem keepN {P : Program} {f : FuncId} {args : Array Value} {w : World} {x : Ending} (h : Calls P f args w fun e w' => e = x ∧ ∃ q, w' = w.drewN q) : Calls P f args w fun e w' => e = x ∧ Ext w w' :=
  h.mono fun e w' ⟨he, q, hw⟩ => ⟨he, by rw [hw]; exact (Ext.refl w).drewN q⟩
theorem leC_at {n : Nat} {x : Int} {xs : List Int} (h : leB n x = xs) {w : World} {g : Nat} {t : TypeId} (hb : Blk w g t (leC n x)) : InM w (some ⟨g, 0, none⟩) (nums .u8 xs) := h ▸ leC_inM hb
theorem put16_own (x : Int) (w : World) (h0 : 0 ≤ x) (h1 : x < 256 ^ 2) :
    Calls Try.prog 21 #[.int .u16 x] w fun e w' => e = .returned (.slice (some ⟨w.heap.size, 0, none⟩) 2 2) ∧ InM w' (some ⟨w.heap.size, 0, none⟩) (nums .u8 (leB 2 x)) ∧ Ext w w' :=
  (put16 x w h0 h1).mono fun e w' ⟨he, hw⟩ => by subst hw; exact ⟨he, leC_inM (Blk.new _ _ _), (Ext.refl w).alloc _⟩
theorem put32_own (x : Int) (w : World) (h0 : 0 ≤ x) (h1 : x < 256 ^ 4) :
    Calls Try.prog 22 #[.int .u32 x] w fun e w' => e = .returned (.slice (some ⟨w.heap.size, 0, none⟩) 4 4) ∧ InM w' (some ⟨w.heap.size, 0, none⟩) (nums .u8 (leB 4 x)) ∧ Ext w w' :=
  (put32 x w h0 h1).mono fun e w' ⟨he, hw⟩ => by subst hw; exact ⟨he, leC_inM (Blk.new _ _ _), (Ext.refl w).alloc _⟩
theorem put64_own (x : Int) (w : World) (h0 : 0 ≤ x) (h1 : x < 256 ^ 8) :
    Calls Try.prog 23 #[.int .u64 x] w fun e w' => e = .returned (.slice (some ⟨w.heap.size, 0, none⟩) 8 8) ∧ InM w' (some ⟨w.heap.size, 0, none⟩) (nums .u8 (leB 8 x)) ∧ Ext w w' :=
  (put64 x w h0 h1).mono fun e w' ⟨he, hw⟩ => by subst hw; exact ⟨he, leC_inM (Blk.new _ _ _), (Ext.refl w).alloc _⟩
theorem Ext.one {w w' : World} {o : Obj} (h : Ext (w.alloc o) w') : Ext w w' := ((Ext.refl w).alloc o).trans h

set_option maxHeartbeats 400000 in
theorem awake01 (w : World) : Calls Try.prog 39 #[] w fun e w' => e = .returned (.bool true) ∧ Ext w w' := by
  have e1 : getB [9, 4, 3, 2, 1] 1 4 = 16909060 := by decide
  have c1 := fun W : World => keep (get32_ok (some ⟨W.heap.size, 0, none⟩) 5 5 1 [9, 4, 3, 2, 1] (W.alloc (.cells #[.int .u8 9, .int .u8 4, .int .u8 3, .int .u8 2, .int .u8 1] 5)) rfl (by omega) (byt_lit rfl) (inM_new rfl) (by omega))
  rw [e1] at c1
  have C1 := Lib.hid c1; clear c1 e1
  go_enter Try.func39, Try.ntmps39
  go_wp2_with fail
  refine (C1.out w).mono ?_
  rintro e w1 ⟨rfl, hx1⟩
  go_wp2_with fail
  refine (keep (get32_no (some ⟨w1.heap.size, 0, none⟩) 5 5 2 _ (by omega) (by omega))).mono ?_
  rintro e w2 ⟨rfl, hx2⟩
  go_wp2_with fail
  refine (keep (get32_no (some ⟨w2.heap.size, 0, none⟩) 5 5 (-1) _ (by omega) (by omega))).mono ?_
  rintro e w3 ⟨rfl, hx3⟩
  go_wp2_with fail
  refine (keep (halves 21474836487 _ (by omega) (by omega))).mono ?_
  rintro e w4 ⟨rfl, hx4⟩
  rw [show (21474836487 : Int) % 4294967296 = 7 from by decide, show (21474836487 : Int) / 4294967296 = 5 from by decide]
  go_wp2_with fail
  refine (put16_own 258 _ (by omega) (by omega)).mono ?_
  rintro e w5 ⟨rfl, hm5, hx5⟩
  rw [show leB 2 258 = [2, 1] from rfl] at hm5
  go_wp2_with fail
  refine (keep (wordsSame _ _ 2 2 2 2 [2, 1] [2, 1] _ rfl rfl (byt_lit rfl) (byt_lit rfl) (hm5.ext ((Ext.refl w5).alloc _)) (inM_new rfl))).mono ?_
  rintro e w6 ⟨rfl, hx6⟩
  rw [show decide ([(2 : Int), 1] = [2, 1]) = true from by decide]
  go_wp2_with fail
  refine (put32_own 16909060 _ (by omega) (by omega)).mono ?_
  rintro e w7 ⟨rfl, hm7, hx7⟩
  rw [show leB 4 16909060 = [4, 3, 2, 1] from rfl] at hm7
  go_wp2_with fail
  refine (keep (wordsSame _ _ 4 4 4 4 [4, 3, 2, 1] [4, 3, 2, 1] _ rfl rfl (byt_lit rfl) (byt_lit rfl) (hm7.ext ((Ext.refl w7).alloc _)) (inM_new rfl))).mono ?_
  rintro e w8 ⟨rfl, hx8⟩
  rw [show decide ([(4 : Int), 3, 2, 1] = [4, 3, 2, 1]) = true from by decide]
  go_wp2_with fail
  refine (keep (wordsSame _ _ 0 0 1 1 [] [0] _ rfl rfl (byt_lit rfl) (byt_lit rfl) (InM.nil _ _) (inM_new rfl))).mono ?_
  rintro e w9 ⟨rfl, hx9⟩
  rw [show decide (([] : List Int) = [0]) = false from by decide]
  go_wp2_with fail
  go_ret
  exact ⟨rfl, (((((hx1.one.trans hx2.one).trans hx3.one).trans hx4).trans hx5).trans hx6.one).trans ((hx7.trans hx8.one).trans hx9.one)⟩

theorem cat2 (L A B : Option Addr) (n c m d : Nat) (xs ys : List Int) (w : World) (hM : InM w L [.slice A n c, .slice B m d]) (hx : xs.length = n) (hy : ys.length = m) (h1 : InM w A (nums .u8 xs)) (h2 : InM w B (nums .u8 ys)) (hb : n + m ≤ 1000000) :
    Calls Try.prog 45 #[.slice L 2 2] w fun e w' => ∃ C c', e = .returned (.slice C (n + m) c') ∧ InM w' C (nums .u8 (xs ++ ys)) ∧ Ext w w' :=
  (cat_any L 2 2 [⟨A, n, c, xs⟩, ⟨B, m, d, ys⟩] w rfl hM (fun s hs => by
    simp only [List.mem_cons, List.not_mem_nil, or_false] at hs
    rcases hs with rfl | rfl
    · exact ⟨hx, h1⟩
    · exact ⟨hy, h2⟩) (by simp [tot]; omega) (by omega)).mono fun e w' ⟨C, c', he, ho, hx⟩ => by
    have e1 : tot [⟨A, n, c, xs⟩, ⟨B, m, d, ys⟩] = n + m := by simp [tot]
    have e2 : flat [⟨A, n, c, xs⟩, ⟨B, m, d, ys⟩] = xs ++ ys := by simp [flat]
    rw [e1, e2] at ho
    rw [e1] at he
    exact ⟨C, c', he, own_inM ho, hx⟩

theorem leB_add : ∀ (a b : Nat) (x : Int), leB (a + b) x = leB a x ++ leB b (x / 256 ^ a)
  | 0, b, x => by simp [leB]
  | a + 1, b, x => by
    rw [show a + 1 + b = (a + b) + 1 from by omega]
    simp only [leB, List.cons_append]
    rw [leB_add a b, Int.pow_succ, Int.mul_comm, ← Int.ediv_ediv_of_nonneg (by decide)]
theorem leB_halves (l h : Int) (hl : 0 ≤ l ∧ l < 4294967296) : leB 8 (l + 4294967296 * h) = leB 4 l ++ leB 4 h := by
  rw [show (8 : Nat) = 4 + 4 from rfl, leB_add, show (256 : Int) ^ 4 = 4294967296 from by decide, show (l + 4294967296 * h) / 4294967296 = h from by omega]
  rw [← leB_mod 4 (l + 4294967296 * h), show (256 : Int) ^ 4 = 4294967296 from by decide, show (l + 4294967296 * h) % 4294967296 = l from by omega]
theorem leB_quarters (l : Int) (hl : 0 ≤ l ∧ l < 4294967296) : leB 4 l = leB 2 (l % 65536) ++ leB 2 (l / 65536) := by
  rw [show (4 : Nat) = 2 + 2 from rfl, leB_add, ← leB_mod 2 l, show (256 : Int) ^ 2 = 65536 from by decide]
theorem getB_leB {n : Nat} {y : Int} (h0 : 0 ≤ y) (h1 : y < 256 ^ n) : getB (leB n y) 0 n = y := by
  unfold getB
  rw [List.drop_zero, List.take_of_length_le (by rw [leB_length]; exact Nat.le_refl _), leN_leB n y h0 h1]

set_option maxHeartbeats 400000 in
theorem wordsHalves_walk (l : Int) (hl : (Lit.int .u32 l).wf = true) (h : Int) (hh : (Lit.int .u32 h).wf = true) (W : World) :
    Calls Try.prog 13 #[.int .u32 l, .int .u32 h] W fun e w' => e = .returned (.bool true) ∧ Ext W w' := by
  have hl := wf_u32 hl
  have hh := wf_u32 hh
  have q1 := Lib.hid (leB_halves l h hl)
  have q2 := Lib.hid (leB_quarters l hl)
  obtain ⟨l0, l1⟩ := hl
  obtain ⟨h0, h1⟩ := hh
  have el : (l == l) = true := by simp
  have eh : (h == h) = true := by simp
  have L8 := Lib.hid (leB_length 8 (l + 4294967296 * h)); have L4 := Lib.hid (leB_length 4 l); have L4h := Lib.hid (leB_length 4 h)
  have L2 := Lib.hid (leB_length 2 (l % 65536)); have L2h := Lib.hid (leB_length 2 (l / 65536))
  go_enter Try.func13, Try.ntmps13
  go_wp2_with fail
  refine (awake01 W).mono ?_
  rintro e w1 ⟨rfl, hx1⟩
  go_wp2_with fail
  refine (keep (whole l h w1 ⟨l0, l1⟩ ⟨h0, h1⟩)).mono ?_
  rintro e w2 ⟨rfl, hx2⟩
  go_wp2_with fail
  refine (keep (halves (l + 4294967296 * h) w2 (by omega) (by omega))).mono ?_
  rintro e w3 ⟨rfl, hx3⟩
  rw [show (l + 4294967296 * h) % 4294967296 = l from by omega, show (l + 4294967296 * h) / 4294967296 = h from by omega]
  go_wp2_with fail
  refine (put64_own (l + 4294967296 * h) _ (by omega) (by omega)).mono ?_
  rintro e w4 ⟨rfl, hm4, hx4⟩
  go_wp2_with fail
  refine (put32_own l _ (by omega) (by omega)).mono ?_
  rintro e w5 ⟨rfl, hm5, hx5⟩
  go_wp2_with fail
  refine (put32_own h _ (by omega) (by omega)).mono ?_
  rintro e w6 ⟨rfl, hm6, hx6⟩
  go_wp2_with fail
  refine (cat2 _ _ _ 4 4 4 4 (leB 4 l) (leB 4 h) _ (inM_new rfl) L4.out L4h.out ((hm5.ext hx6).ext ((Ext.refl _).alloc _)) (hm6.ext ((Ext.refl _).alloc _)) (by omega)).mono ?_
  rintro e w7 ⟨C, c', rfl, hm7, hx7⟩
  go_wp2_with fail
  refine (keep (wordsSame _ _ 8 8 8 c' (leB 8 (l + 4294967296 * h)) (leB 4 l ++ leB 4 h) _ L8.out (by rw [List.length_append, L4.out, L4h.out]) (leB_byt _ _) ((leB_byt _ _).append (leB_byt _ _)) ((((hm4.ext hx5).ext hx6).ext ((Ext.refl _).alloc _)).ext hx7) hm7)).mono ?_
  rintro e w8 ⟨rfl, hx8⟩
  rw [q1.out, decide_eq_true rfl]
  go_wp2_with fail
  refine (put32_own l _ (by omega) (by omega)).mono ?_
  rintro e w9 ⟨rfl, hm9, hx9⟩
  go_wp2_with fail
  refine (put16_own (l % 65536) _ (by omega) (by omega)).mono ?_
  rintro e w10 ⟨rfl, hm10, hx10⟩
  go_wp2_with fail
  refine (put16_own (l / 65536) _ (by omega) (by omega)).mono ?_
  rintro e w11 ⟨rfl, hm11, hx11⟩
  go_wp2_with fail
  refine (cat2 _ _ _ 2 2 2 2 (leB 2 (l % 65536)) (leB 2 (l / 65536)) _ (inM_new rfl) L2.out L2h.out ((hm10.ext hx11).ext ((Ext.refl _).alloc _)) (hm11.ext ((Ext.refl _).alloc _)) (by omega)).mono ?_
  rintro e w12 ⟨C2, c2, rfl, hm12, hx12⟩
  go_wp2_with fail
  refine (keep (wordsSame _ _ 4 4 4 c2 (leB 4 l) (leB 2 (l % 65536) ++ leB 2 (l / 65536)) _ L4.out (by rw [List.length_append, L2.out, L2h.out]) (leB_byt _ _) ((leB_byt _ _).append (leB_byt _ _)) ((((hm9.ext hx10).ext hx11).ext ((Ext.refl _).alloc _)).ext hx12) hm12)).mono ?_
  rintro e w13 ⟨rfl, hx13⟩
  rw [q2.out, decide_eq_true rfl]
  go_wp2_with fail
  go_ret
  exact ⟨rfl, (((hx1.trans hx2).trans hx3).trans (((hx4.trans hx5).trans hx6).trans hx7.one)).trans ((hx8.trans ((hx9.trans hx10).trans hx11)).trans (hx12.one.trans hx13))⟩
end Go.Proofs.Ytlicndonhmcmmaa
