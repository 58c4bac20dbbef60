import Derived.Test.YtlicndonhmcmmaaWordsC
import Derived.Test.YtlicndonhmcmmaaOpen
namespace Go.Proofs.Ytlicndonhmcmmaa
open Go.RowKit Go.ChangeShapes Go.WideShapes
set_option linter.unusedVariables false

/-- What Get tells of any place. -/
def gb (n : Nat) (a : Int) (k : Nat) : Bool := decide (0 ≤ a ∧ a ≤ (n : Int) - k)
def gv (bs : List Int) (a : Int) (k : Nat) : Int := if gb bs.length a k = true then getB bs a.toNat k else 0
theorem pow256_le {a b : Nat} (h : a ≤ b) : (256 : Int) ^ a ≤ 256 ^ b := by
  obtain ⟨d, rfl⟩ := Nat.exists_eq_add_of_le h
  clear h
  induction d with
  | zero => exact Int.le_refl _
  | succ d ih =>
    rw [← Nat.add_assoc, Int.pow_succ]
    have : (0 : Int) < 256 ^ (a + d) := Int.pow_pos (by decide)
    omega
theorem getB_bd {bs : List Int} (h : Byt bs) (a k : Nat) : 0 ≤ getB bs a k ∧ getB bs a k < 256 ^ k := by
  have h1 := leN_bd ((bs.drop a).take k) ((h.drop a).take k)
  have h2 : ((bs.drop a).take k).length ≤ k := List.length_take_le _ _
  have h3 : (256 : Int) ^ ((bs.drop a).take k).length ≤ 256 ^ k := pow256_le h2
  unfold getB
  omega
theorem gv_bd {bs : List Int} (h : Byt bs) (a : Int) (k : Nat) : 0 ≤ gv bs a k ∧ gv bs a k < 256 ^ k := by
  unfold gv
  split
  · exact getB_bd h _ _
  · exact ⟨Int.le_refl _, Int.pow_pos (by decide)⟩
theorem gb_yes {n : Nat} {a : Int} {k : Nat} (h : 0 ≤ a ∧ a ≤ (n : Int) - k) : gb n a k = true := by unfold gb; simpa using h
theorem gb_no {n : Nat} {a : Int} {k : Nat} (h : ¬ (0 ≤ a ∧ a ≤ (n : Int) - k)) : gb n a k = false := by unfold gb; simpa using h

theorem get16_any (A : Option Addr) (n c : Nat) (a : Int) (bs : List Int) (w : World) (hn : bs.length = n) (hb : n ≤ 1000000) (hB : Byt bs) (hM : InM w A (nums .u8 bs)) :
    Calls Try.prog 28 #[.slice A n c, .int .i64 a] w fun e w' => e = .returned (.tuple #[.int .u16 (gv bs a 2), .bool (gb n a 2)]) ∧ w = w' := by
  by_cases h : 0 ≤ a ∧ a ≤ (n : Int) - (2 : Nat)
  · obtain ⟨k, rfl⟩ := Int.eq_ofNat_of_zero_le h.1
    rw [gb_yes h, gv, hn, gb_yes h, if_pos rfl, Int.toNat_natCast]
    exact get16_ok A n c k bs w hn hb hB hM (by omega)
  · rw [gb_no h, gv, hn, gb_no h, if_neg (by simp)]
    exact get16_no A n c a w hb (by omega)
theorem refGet2_any (A : Option Addr) (n c : Nat) (a : Int) (bs : List Int) (w : World) (hn : bs.length = n) (hb : n ≤ 1000000) (hB : Byt bs) (hM : InM w A (nums .u8 bs)) :
    Calls Try.prog 31 #[.slice A n c, .int .i64 a, .int .i64 2] w fun e w' => e = .returned (.tuple #[.int .u64 (gv bs a 2), .bool (gb n a 2)]) ∧ w = w' := by
  by_cases h : 0 ≤ a ∧ a ≤ (n : Int) - (2 : Nat)
  · obtain ⟨k, rfl⟩ := Int.eq_ofNat_of_zero_le h.1
    rw [gb_yes h, gv, hn, gb_yes h, if_pos rfl, Int.toNat_natCast]
    exact refGet2_ok A n c k bs w hn hb hB hM (by omega)
  · rw [gb_no h, gv, hn, gb_no h, if_neg (by simp)]
    exact refGet2_no A n c a w hb (by omega)
theorem get32_any (A : Option Addr) (n c : Nat) (a : Int) (bs : List Int) (w : World) (hn : bs.length = n) (hb : n ≤ 1000000) (hB : Byt bs) (hM : InM w A (nums .u8 bs)) :
    Calls Try.prog 29 #[.slice A n c, .int .i64 a] w fun e w' => e = .returned (.tuple #[.int .u32 (gv bs a 4), .bool (gb n a 4)]) ∧ w = w' := by
  by_cases h : 0 ≤ a ∧ a ≤ (n : Int) - (4 : Nat)
  · obtain ⟨k, rfl⟩ := Int.eq_ofNat_of_zero_le h.1
    rw [gb_yes h, gv, hn, gb_yes h, if_pos rfl, Int.toNat_natCast]
    exact get32_ok A n c k bs w hn hb hB hM (by omega)
  · rw [gb_no h, gv, hn, gb_no h, if_neg (by simp)]
    exact get32_no A n c a w hb (by omega)
theorem refGet4_any (A : Option Addr) (n c : Nat) (a : Int) (bs : List Int) (w : World) (hn : bs.length = n) (hb : n ≤ 1000000) (hB : Byt bs) (hM : InM w A (nums .u8 bs)) :
    Calls Try.prog 31 #[.slice A n c, .int .i64 a, .int .i64 4] w fun e w' => e = .returned (.tuple #[.int .u64 (gv bs a 4), .bool (gb n a 4)]) ∧ w = w' := by
  by_cases h : 0 ≤ a ∧ a ≤ (n : Int) - (4 : Nat)
  · obtain ⟨k, rfl⟩ := Int.eq_ofNat_of_zero_le h.1
    rw [gb_yes h, gv, hn, gb_yes h, if_pos rfl, Int.toNat_natCast]
    exact refGet4_ok A n c k bs w hn hb hB hM (by omega)
  · rw [gb_no h, gv, hn, gb_no h, if_neg (by simp)]
    exact refGet4_no A n c a w hb (by omega)
theorem get64_any (A : Option Addr) (n c : Nat) (a : Int) (bs : List Int) (w : World) (hn : bs.length = n) (hb : n ≤ 1000000) (hB : Byt bs) (hM : InM w A (nums .u8 bs)) :
    Calls Try.prog 30 #[.slice A n c, .int .i64 a] w fun e w' => e = .returned (.tuple #[.int .u64 (gv bs a 8), .bool (gb n a 8)]) ∧ w = w' := by
  by_cases h : 0 ≤ a ∧ a ≤ (n : Int) - (8 : Nat)
  · obtain ⟨k, rfl⟩ := Int.eq_ofNat_of_zero_le h.1
    rw [gb_yes h, gv, hn, gb_yes h, if_pos rfl, Int.toNat_natCast]
    exact get64_ok A n c k bs w hn hb hB hM (by omega)
  · rw [gb_no h, gv, hn, gb_no h, if_neg (by simp)]
    exact get64_no A n c a w hb (by omega)
theorem refGet8_any (A : Option Addr) (n c : Nat) (a : Int) (bs : List Int) (w : World) (hn : bs.length = n) (hb : n ≤ 1000000) (hB : Byt bs) (hM : InM w A (nums .u8 bs)) :
    Calls Try.prog 31 #[.slice A n c, .int .i64 a, .int .i64 8] w fun e w' => e = .returned (.tuple #[.int .u64 (gv bs a 8), .bool (gb n a 8)]) ∧ w = w' := by
  by_cases h : 0 ≤ a ∧ a ≤ (n : Int) - (8 : Nat)
  · obtain ⟨k, rfl⟩ := Int.eq_ofNat_of_zero_le h.1
    rw [gb_yes h, gv, hn, gb_yes h, if_pos rfl, Int.toNat_natCast]
    exact refGet8_ok A n c k bs w hn hb hB hM (by omega)
  · rw [gb_no h, gv, hn, gb_no h, if_neg (by simp)]
    exact refGet8_no A n c a w hb (by omega)
theorem wordsGet_walk (A : Option Addr) (n c : Nat) (xs : List Int) (hn : xs.length = n) (hm : n ≤ c ∧ c ≤ maxLen) (hB : Byt xs) {W : World} (hM : InM W A (nums .u8 xs)) (a : Int) (ha : (Lit.int .i64 a).wf = true) (_ : World) :
    Calls Try.prog 4 #[.slice A n c, .int .i64 a] W fun e w' => e = .returned (.bool true) ∧ Ext W w' := by
  clear hm
  by_cases hbig : (1000 : Int) < n
  · go_enter Try.func4, Try.ntmps4
    go_wp2
    go_ret
    exact ⟨rfl, Ext.refl _⟩
  · have hb : n ≤ 1000000 := by omega
    have g2 := gv_bd hB a 2
    have g4 := gv_bd hB a 4
    have g8 := gv_bd hB a 8
    have e2 : (gv xs a 2 == gv xs a 2) = true := by simp
    have e4 : (gv xs a 4 == gv xs a 4) = true := by simp
    have e8 : (gv xs a 8 == gv xs a 8) = true := by simp
    have Hn := Lib.hid hn; clear hn ha
    have HM := Lib.hid hM; clear hM
    go_enter Try.func4, Try.ntmps4
    go_wp2_with (go_at_call 27; refine (refCopy A n c xs W Hn.out hb HM.out).mono ?_; rintro e w1 ⟨rfl, hblk, hx⟩)
    have hM1 : InM w1 (some ⟨W.heap.size, 0, none⟩) (nums .u8 xs) := InM.ofBlk hblk (by simp)
    have hM2 := HM.out.ext hx
    have HB1 := Lib.hid hM1; have HB2 := Lib.hid hM2; clear hM1 hM2
    go_wp2_with (first | (go_at_call 28; refine (get16_any _ n n a xs w1 Hn.out hb hB HB1.out).mono ?_; rintro e w' ⟨rfl, rfl⟩) | (go_at_call 29; refine (get32_any _ n n a xs w1 Hn.out hb hB HB1.out).mono ?_; rintro e w' ⟨rfl, rfl⟩) | (go_at_call 30; refine (get64_any _ n n a xs w1 Hn.out hb hB HB1.out).mono ?_; rintro e w' ⟨rfl, rfl⟩) | (go_at_call 31; ((first | (with_reducible refine (refGet2_any _ n c a xs w1 Hn.out hb hB HB2.out).mono ?_) | (with_reducible refine (refGet4_any _ n c a xs w1 Hn.out hb hB HB2.out).mono ?_) | (with_reducible refine (refGet8_any _ n c a xs w1 Hn.out hb hB HB2.out).mono ?_)); rintro e w' ⟨rfl, rfl⟩)) | (go_at_call 24; refine (refSame_true _ _ n n c xs w1 Hn.out hb HB1.out HB2.out).mono ?_; rintro e w' ⟨rfl, q, rfl⟩))
    go_ret
    exact ⟨rfl, hx.drewN _⟩
theorem put16_blk (x : Int) (w : World) (h0 : 0 ≤ x) (h1 : x < 256 ^ 8) :
    Calls Try.prog 21 #[.int .u16 (x % 65536)] w fun e w' => e = .returned (.slice (some ⟨w.heap.size, 0, none⟩) 2 2) ∧ Blk w' w.heap.size 5 (leC 2 x) ∧ Ext w w' ∧ w'.heap.size = w.heap.size + 1 :=
  (put16 (x % 65536) w (by omega) (by omega)).mono fun e w' ⟨he, hw⟩ => by
    subst hw
    refine ⟨he, ?_, (Ext.refl w).alloc _, by simp⟩
    have e : leC 2 (x % 65536) = leC 2 x := by unfold leC; rw [show (65536 : Int) = 256 ^ 2 from by decide, leB_mod]
    rw [e]
    exact Blk.new _ _ _
theorem refPut2_blk (x : Int) (w : World) (h0 : 0 ≤ x) (h1 : x < 256 ^ 8) :
    Calls Try.prog 25 #[.int .u64 x, .int .i64 2] w fun e w' => e = .returned (.slice (some ⟨w.heap.size, 0, none⟩) 2 2) ∧ Blk w' w.heap.size 5 (leC 2 x) ∧ Ext w w' ∧ w'.heap.size = w.heap.size + 1 :=
  (refPut2 x w h0 (by unfold Lt64; omega)).mono fun e w' ⟨he, hw⟩ => by
    subst hw
    exact ⟨he, Blk.new _ _ _, (Ext.refl w).alloc _, by simp⟩
theorem put32_blk (x : Int) (w : World) (h0 : 0 ≤ x) (h1 : x < 256 ^ 8) :
    Calls Try.prog 22 #[.int .u32 (x % 4294967296)] w fun e w' => e = .returned (.slice (some ⟨w.heap.size, 0, none⟩) 4 4) ∧ Blk w' w.heap.size 5 (leC 4 x) ∧ Ext w w' ∧ w'.heap.size = w.heap.size + 1 :=
  (put32 (x % 4294967296) w (by omega) (by omega)).mono fun e w' ⟨he, hw⟩ => by
    subst hw
    refine ⟨he, ?_, (Ext.refl w).alloc _, by simp⟩
    have e : leC 4 (x % 4294967296) = leC 4 x := by unfold leC; rw [show (4294967296 : Int) = 256 ^ 4 from by decide, leB_mod]
    rw [e]
    exact Blk.new _ _ _
theorem refPut4_blk (x : Int) (w : World) (h0 : 0 ≤ x) (h1 : x < 256 ^ 8) :
    Calls Try.prog 25 #[.int .u64 x, .int .i64 4] w fun e w' => e = .returned (.slice (some ⟨w.heap.size, 0, none⟩) 4 4) ∧ Blk w' w.heap.size 5 (leC 4 x) ∧ Ext w w' ∧ w'.heap.size = w.heap.size + 1 :=
  (refPut4 x w h0 (by unfold Lt64; omega)).mono fun e w' ⟨he, hw⟩ => by
    subst hw
    exact ⟨he, Blk.new _ _ _, (Ext.refl w).alloc _, by simp⟩
theorem put64_blk (x : Int) (w : World) (h0 : 0 ≤ x) (h1 : x < 256 ^ 8) :
    Calls Try.prog 23 #[.int .u64 x] w fun e w' => e = .returned (.slice (some ⟨w.heap.size, 0, none⟩) 8 8) ∧ Blk w' w.heap.size 5 (leC 8 x) ∧ Ext w w' ∧ w'.heap.size = w.heap.size + 1 :=
  (put64 x w (by omega) (by omega)).mono fun e w' ⟨he, hw⟩ => by
    subst hw
    refine ⟨he, ?_, (Ext.refl w).alloc _, by simp⟩
    have e : leC 8 x = leC 8 x := by rfl
    rw [e]
    exact Blk.new _ _ _
theorem refPut8_blk (x : Int) (w : World) (h0 : 0 ≤ x) (h1 : x < 256 ^ 8) :
    Calls Try.prog 25 #[.int .u64 x, .int .i64 8] w fun e w' => e = .returned (.slice (some ⟨w.heap.size, 0, none⟩) 8 8) ∧ Blk w' w.heap.size 5 (leC 8 x) ∧ Ext w w' ∧ w'.heap.size = w.heap.size + 1 :=
  (refPut8 x w h0 (by unfold Lt64; omega)).mono fun e w' ⟨he, hw⟩ => by
    subst hw
    exact ⟨he, Blk.new _ _ _, (Ext.refl w).alloc _, by simp⟩
theorem leC_inM {w : World} {g n : Nat} {t : TypeId} {x : Int} (h : Blk w g t (leC n x)) : InM w (some ⟨g, 0, none⟩) (nums .u8 (leB n x)) := InM.ofBlk h (by simp [leC])

/-- One round of 'b[i]++' on a row of bytes of the call's own. -/
theorem blk_bump {w : World} {g k : Nat} {zs : List Int} {t : TypeId} (h : Blk w g t (nums .u8 zs).toArray) (z : Int) : Blk (w.setCell ⟨g, k, none⟩ (.int .u8 z)) g t (nums .u8 (zs.set k z)).toArray := by
  have := h.set_ k (.int .u8 z)
  simpa [nums, List.map_set] using this

theorem wordsPut_walk (x : Int) (hx : (Lit.int .u64 x).wf = true) (W : World) :
    Calls Try.prog 3 #[.int .u64 x] W fun e w' => e = .returned (.bool true) ∧ Ext W w' := by
  obtain ⟨h0, h1⟩ := wf_u64 hx
  clear hx
  have H1 := Lib.hid h1; clear h1
  go_enter Try.func3, Try.ntmps3
  go_wp2
  go_loopw [3] (fun t wr => ∃ k : Nat, k ≤ 2 ∧ t = .int .i64 k ∧ Ext W wr) (fun t _ => 2 - (intOf t).toNat)
  case atStart => exact ⟨0, by omega, rfl, Ext.refl _⟩
  case round =>
    obtain ⟨k, hk, rfl, hext⟩ := hrel
    by_cases hlt : k < 2
    · go_wp2_with (first | (go_at_call 21; refine (put16_blk x _ h0 H1.out).mono ?_; rintro e w1 ⟨rfl, hb1, hx1, hs1⟩) | (go_at_call 22; refine (put32_blk x _ h0 H1.out).mono ?_; rintro e w2 ⟨rfl, hb2, hx2, hs2⟩) | (go_at_call 23; refine (put64_blk x _ h0 H1.out).mono ?_; rintro e w3 ⟨rfl, hb3, hx3, hs3⟩))
      rw [hs1] at hb2
      rw [hs2, hs1] at hb3
      have l2 := leB_length 2 x
      have l4 := leB_length 4 x
      have l8 := leB_length 8 x
      have L2 := Lib.hid l2; have L4 := Lib.hid l4; have L8 := Lib.hid l8; clear l2 l4 l8
      refine (refPut2_blk x w3 h0 H1.out).mono ?_
      rintro e w4 ⟨rfl, hb4, hx4, hs4⟩
      rw [hs3, hs2, hs1] at hb4 hs4
      go_wp2_with fail
      refine (refSame_true _ _ 2 2 2 (leB 2 x) w4 L2.out (by omega) (leC_inM (((hb1.ext hx2).ext hx3).ext hx4)) (leC_inM hb4)).mono ?_
      rintro e w' ⟨rfl, q4, rfl⟩
      go_wp2_with fail
      refine (refPut4_blk x (w4.drewN q4) h0 H1.out).mono ?_
      rintro e w5 ⟨rfl, hb5, hx5, hs5⟩
      have hz : (w4.drewN q4).heap.size = wr.heap.size + 1 + 1 + 1 + 1 := hs4
      rw [hz] at hb5 hs5
      go_wp2_with fail
      have y4 : Ext w3 w5 := (hx4.drewN q4).trans hx5
      refine (refSame_true _ _ 4 4 4 (leB 4 x) w5 L4.out (by omega) (leC_inM ((hb2.ext hx3).ext y4)) (leC_inM hb5)).mono ?_
      rintro e w' ⟨rfl, q5, rfl⟩
      go_wp2_with fail
      refine (refPut8_blk x (w5.drewN q5) h0 H1.out).mono ?_
      rintro e w6 ⟨rfl, hb6, hx6, hs6⟩
      have hz5 : (w5.drewN q5).heap.size = wr.heap.size + 1 + 1 + 1 + 1 + 1 := hs5
      rw [hz5] at hb6 hs6
      have y5 : Ext w3 w6 := y4.trans ((((Ext.refl w5).drewN q5)).trans hx6)
      go_wp2_with fail
      refine (refSame_true _ _ 8 8 8 (leB 8 x) w6 L8.out (by omega) (leC_inM (hb3.ext y5)) (leC_inM hb6)).mono ?_
      rintro e w' ⟨rfl, q6, rfl⟩
      have B1 : Blk (w6.drewN q6) wr.heap.size 5 (nums .u8 (leB 2 x)).toArray := ((hb1.ext hx2).ext hx3).ext (y5.drewN q6)
      have B2 : Blk (w6.drewN q6) (wr.heap.size + 1) 5 (nums .u8 (leB 4 x)).toArray := (hb2.ext hx3).ext (y5.drewN q6)
      have B3 : Blk (w6.drewN q6) (wr.heap.size + 1 + 1) 5 (nums .u8 (leB 8 x)).toArray := hb3.ext (y5.drewN q6)
      have E6 : Ext W (w6.drewN q6) := ((hext.trans hx1).trans (hx2.trans hx3)).trans (y5.drewN q6)
      have hsz := hext.size
      generalize w6.drewN q6 = W0 at *
      clear hz hz5 hb1 hb2 hb3 hb4 hb5 hb6 hx1 hx2 hx3 hx4 hx5 hx6 y4 y5 hs4 hs5 hs6 hs1 hs2 hs3
      generalize wr.heap.size = g at *
      go_wp2
      go_loopw [7] (fun i wt => ∃ (j : Nat) (a b c : List Int), j ≤ 8 ∧ i = .int .i64 j ∧ Ext W wt ∧ a.length = 2 ∧ b.length = 4 ∧ c.length = 8 ∧ Blk wt g 5 (nums .u8 a).toArray ∧ Blk wt (g + 1) 5 (nums .u8 b).toArray ∧ Blk wt (g + 1 + 1) 5 (nums .u8 c).toArray) (fun i _ => 8 - (intOf i).toNat)
      case atStart => exact ⟨0, _, _, _, by omega, rfl, E6, L2.out, L4.out, L8.out, B1, B2, B3⟩
      case round =>
        obtain ⟨j, a, b, c, hj, rfl, he, la, lb, lc, ba, bb, bc⟩ := hrel
        by_cases hj8 : j < 8
        · have hjc : j < c.length := by omega
          have hc1 : wr.cell? ⟨g + 1 + 1, j, none⟩ = some (.int .u8 c[j]) := by rw [bc.cell]; simp [nums, hjc]
          have hf1 : wr.frozen? ⟨g + 1 + 1, j, none⟩ = false := bc.frozen j
          have N2 : ∀ z, (c.set j z).length = 8 := fun z => by rw [List.length_set]; exact lc
          generalize c[j] = z at hc1
          have LA := Lib.hid la; have LB := Lib.hid lb; have LC := Lib.hid lc
          clear la lb lc
          go_wp2
          go_roundw
          case rel => exact ⟨j + 1, a, b, c.set j _, by omega, by go_num, he.set (p := ⟨g + 1 + 1, j, none⟩) (by simp; omega) _, LA.out, LB.out, N2 _, ba.far (by dsimp only; omega) _, bb.far (by dsimp only; omega) _, blk_bump bc _⟩
          case measure => simp [intOf]; omega
        · obtain rfl : j = 8 := by omega
          go_wp2
          go_loopw [8] (fun i wt => ∃ (j : Nat) (a b c : List Int), j ≤ 2 ∧ i = .int .i64 j ∧ Ext W wt ∧ a.length = 2 ∧ b.length = 4 ∧ c.length = 8 ∧ Blk wt g 5 (nums .u8 a).toArray ∧ Blk wt (g + 1) 5 (nums .u8 b).toArray ∧ Blk wt (g + 1 + 1) 5 (nums .u8 c).toArray) (fun i _ => 2 - (intOf i).toNat)
          case atStart => exact ⟨0, a, b, c, by omega, rfl, he, la, lb, lc, ba, bb, bc⟩
          case round =>
            clear ba bb bc la lb lc he
            obtain ⟨j, a, b, c, hj, rfl, he, la, lb, lc, ba, bb, bc⟩ := hrel
            by_cases hj2 : j < 2
            · have hja : j < a.length := by omega
              have hjb : j < b.length := by omega
              have hc1 : wr.cell? ⟨g, j, none⟩ = some (.int .u8 a[j]) := by rw [ba.cell]; simp [nums, hja]
              have hf1 : wr.frozen? ⟨g, j, none⟩ = false := ba.frozen j
              have hc2 : wr.cell? ⟨g + 1, j, none⟩ = some (.int .u8 b[j]) := by rw [bb.cell]; simp [nums, hjb]
              have hf2 : wr.frozen? ⟨g + 1, j, none⟩ = false := bb.frozen j
              have N2 : ∀ z, (a.set j z).length = 2 := fun z => by rw [List.length_set]; exact la
              have N3 : ∀ z, (b.set j z).length = 4 := fun z => by rw [List.length_set]; exact lb
              generalize a[j] = z at hc1
              generalize b[j] = z2 at hc2
              have LC := Lib.hid lc
              clear la lb lc
              go_wp2
              go_roundw
              case rel => exact ⟨j + 1, a.set j _, b.set j _, c, by omega, by go_num, (he.set (p := ⟨g, j, none⟩) (by simp; omega) _).set (p := ⟨g + 1, j, none⟩) (by simp; omega) _, N2 _, N3 _, LC.out, (blk_bump ba _).far (by dsimp only; omega) _, blk_bump (bb.far (by dsimp only; omega) _) _, (bc.far (by dsimp only; omega) _).far (by dsimp only; omega) _⟩
              case measure => simp [intOf]; omega
            · obtain rfl : j = 2 := by omega
              go_wp2
              go_roundw
              case rel => exact ⟨k + 1, by omega, by go_num, he⟩
              case measure => simp [intOf]; omega
    · obtain rfl : k = 2 := by omega
      have e1 : (x % 4294967296 == x % 4294967296) = true := by simp
      have e2 : (x / 4294967296 == x / 4294967296) = true := by simp
      go_wp2_with (go_at_call 26; refine (halves x _ h0 H1.out).mono ?_; rintro e w' ⟨rfl, rfl⟩)
      go_ret
      refine ⟨ret_bool ?_, hext⟩
      rw [beq_iff_eq, Int.tdiv_eq_ediv_of_nonneg h0]
end Go.Proofs.Ytlicndonhmcmmaa
