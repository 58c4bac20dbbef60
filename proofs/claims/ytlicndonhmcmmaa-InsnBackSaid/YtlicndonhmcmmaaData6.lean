import Derived.Test.YtlicndonhmcmmaaData5
namespace Go.Proofs.Ytlicndonhmcmmaa
open Go.RowKit Go.ChangeShapes Go.WideShapes
set_option linter.unusedVariables false

theorem prB_drop : ∀ (l : List Int) (k : Nat), (prB l).drop (4 * k) = prB (l.drop k)
  | l, 0 => by simp
  | [], k + 1 => by simp [prB]
  | x :: r, k + 1 => by
    rw [show 4 * (k + 1) = 4 + 4 * k from by omega, ← List.drop_drop]
    simp only [prB, List.drop_succ_cons]
    rw [List.drop_append_of_le_length (by rw [leB_length]; omega), List.drop_eq_nil_of_le (show (leB 4 x).length ≤ 4 by rw [leB_length]; omega), List.nil_append]
    exact prB_drop r k
theorem getB_prB4 (l : List Int) (k : Nat) (hk : k < l.length) (hu : ∀ x ∈ l, U32 x) : getB (prB l) (4 * k) 4 = l.getD k 0 := by
  unfold getB
  rw [prB_drop, List.drop_eq_getElem_cons hk]
  simp only [prB]
  rw [List.take_append_of_le_length (by rw [leB_length]; omega), List.take_of_length_le (by rw [leB_length]; omega)]
  have := hu _ (List.getElem_mem hk)
  rw [leN_leB 4 _ this.1 (by have := this.2; omega), List.getD_eq_getElem?_getD, List.getElem?_eq_getElem hk]
  rfl
theorem leN_append : ∀ (a b : List Int), leN (a ++ b) = leN a + 256 ^ a.length * leN b
  | [], b => by simp [leN]
  | x :: r, b => by
    simp only [leN, List.cons_append, List.length_cons, Int.pow_succ]
    rw [leN_append r b]
    rw [Int.mul_add, Int.add_assoc, ← Int.mul_assoc, Int.mul_comm 256 (256 ^ r.length)]
theorem getB_prB8 (l : List Int) (k : Nat) (hk : k + 1 < l.length) (hu : ∀ x ∈ l, U32 x) : getB (prB l) (4 * k) 8 = l.getD k 0 + 4294967296 * l.getD (k + 1) 0 := by
  have h1 := hu _ (List.getElem_mem (show k < l.length by omega))
  have h2 := hu _ (List.getElem_mem hk)
  unfold getB
  rw [prB_drop, List.drop_eq_getElem_cons (by omega), List.drop_eq_getElem_cons hk]
  simp only [prB]
  rw [← List.append_assoc, List.take_append_of_le_length (by rw [List.length_append, leB_length, leB_length]; omega), List.take_of_length_le (by rw [List.length_append, leB_length, leB_length]; omega)]
  rw [leN_append, leB_length, leN_leB 4 _ h1.1 (by have := h1.2; omega), leN_leB 4 _ h2.1 (by have := h2.2; omega), List.getD_eq_getElem?_getD, List.getD_eq_getElem?_getD, List.getElem?_eq_getElem (by omega), List.getElem?_eq_getElem hk]
  rfl
theorem lohi (x : Int) : lo x + 4294967296 * hi x = x := by unfold lo hi; omega
theorem parse_bytes (d : Dat) (h : d.ok) : parseD d.bytes = d := by
  have hu := words_u32 d h
  have e4 : ∀ k, k < 16 → getB d.bytes (4 * k) 4 = d.words.getD k 0 := fun k hk => getB_prB4 d.words k hk hu
  have e8 : ∀ k, k + 1 < 16 → getB d.bytes (4 * k) 8 = d.words.getD k 0 + 4294967296 * d.words.getD (k + 1) 0 := fun k hk => getB_prB8 d.words k hk hu
  obtain ⟨nr, arch, ip, a0, a1, a2, a3, a4, a5⟩ := d
  have f0 := e4 0 (by omega)
  have f1 := e4 1 (by omega)
  have f2 := e8 2 (by omega)
  have f3 := e8 4 (by omega)
  have f4 := e8 6 (by omega)
  have f5 := e8 8 (by omega)
  have f6 := e8 10 (by omega)
  have f7 := e8 12 (by omega)
  have f8 := e8 14 (by omega)
  simp only [Dat.words, List.getD_cons_zero, List.getD_cons_succ, lohi, Nat.mul_zero, Nat.mul_one, Nat.reduceMul, Nat.reduceAdd] at f0 f1 f2 f3 f4 f5 f6 f7 f8
  unfold parseD
  rw [f0, f1, f2, f3, f4, f5, f6, f7, f8]
theorem seg_leB (bs : List Int) (hB : Byt bs) (a k : Nat) (h : a + k ≤ bs.length) : leB k (getB bs a k) = (bs.drop a).take k := by
  have := leB_leN ((bs.drop a).take k) ((hB.drop a).take k)
  rwa [List.length_take, List.length_drop, show min k (bs.length - a) = k from by omega] at this
theorem seg_join (bs : List Int) (a k m : Nat) : (bs.drop a).take k ++ (bs.drop (a + k)).take m = (bs.drop a).take (k + m) := by
  rw [← List.drop_drop, List.take_add]
theorem bytes_parse (bs : List Int) (hB : Byt bs) (hn : bs.length = 64) : (parseD bs).bytes = bs := by
  rw [bytes_eq]
  simp only [parseD]
  rw [seg_leB bs hB 0 4 (by omega), seg_leB bs hB 4 4 (by omega), seg_leB bs hB 8 8 (by omega), seg_leB bs hB 16 8 (by omega), seg_leB bs hB 24 8 (by omega), seg_leB bs hB 32 8 (by omega), seg_leB bs hB 40 8 (by omega), seg_leB bs hB 48 8 (by omega), seg_leB bs hB 56 8 (by omega)]
  have j := fun k m => seg_join bs 0 k m
  simp only [Nat.zero_add] at j
  rw [j 4 4, j 8 8, j 16 8, j 24 8, j 32 8, j 40 8, j 48 8, j 56 8, List.drop_zero, List.take_of_length_le (by omega)]

set_option maxRecDepth 100000 in
theorem refWord_any (d : Dat) (hd : d.ok) (at_ : Int) (w : World) (h0 : 0 ≤ at_) (h1 : at_ < 4294967296) :
    Calls Try.prog 43 #[d.val, .int .u32 at_] w fun e w' => e = .returned (.tuple #[.int .u32 (d.word at_), .int .i64 (wordErr at_)]) ∧ Ext w w' := by
  by_cases h4 : at_ % 4 = 0
  · have d1 : (at_ % 4 != 0) = false := by simp; exact h4
    by_cases h64 : at_ < 64
    · have hw : wordOk at_ = true := by unfold wordOk; simp; omega
      obtain ⟨k, rfl⟩ : ∃ k : Nat, at_ = 4 * (k : Int) := ⟨(at_ / 4).toNat, by omega⟩
      have hk : k < 16 := by omega
      rw [show d.word (4 * (k : Int)) = d.words.getD k 0 from by unfold Dat.word; rw [if_pos hw, show (4 * (k : Int) / 4).toNat = k from by omega], show wordErr (4 * (k : Int)) = 0 from by unfold wordErr; rw [if_pos hw]]
      have d2 : decide (60 < 4 * (k : Int)) = false := by simp; omega
      have hg : getB d.bytes (4 * k) 4 = d.words.getD k 0 := getB_prB4 d.words k hk (words_u32 d hd)
      have hu := wordAt_u32 d hd k
      rw [← hg] at hu ⊢
      have HP := Lib.hid (fun W : World => refPrint_any d hd W)
      have HB := Lib.hid (prB_byt d.words)
      have hl : d.bytes.length = 64 := prB_length d.words
      have HL := Lib.hid hl
      have HR := Lib.hid (fun (W : World) (A : Option Addr) (c' : Nat) (hm : InM W A (nums .u8 d.bytes)) => refGet4_ok A 64 c' (4 * k) d.bytes W hl (by omega) (prB_byt d.words) hm (by omega))
      rw [show ((4 * k : Nat) : Int) = 4 * (k : Int) from by omega] at HR
      obtain ⟨u0, u1⟩ := hu
      generalize getB d.bytes (4 * k) 4 = g at *
      generalize d.bytes = bs at *
      clear h4 hw h64 hg hl hd
      obtain ⟨nr, arch, ip, a0, a1, a2, a3, a4, a5⟩ := d
      go_enter Try.func43, Try.ntmps43
      go_wp2_with fail
      refine (HP.out _).mono ?_
      rintro e w1 ⟨A, c', rfl, hm, hx1⟩
      go_wp2_with fail
      refine (keep (HR.out w1 A c' hm)).mono ?_
      rintro e w2 ⟨rfl, hx2⟩
      go_wp2_with fail
      go_ret2
      exact ⟨rfl, hx1.one.trans hx2⟩
    · have hw : wordOk at_ = false := by unfold wordOk; simp; omega
      rw [show d.word at_ = 0 from by unfold Dat.word; rw [if_neg (by rw [hw]; simp)], show wordErr at_ = 41 from by unfold wordErr; rw [if_neg (by rw [hw]; simp)]]
      have d2 : decide (60 < at_) = true := by simp; omega
      clear h4 hw
      obtain ⟨nr, arch, ip, a0, a1, a2, a3, a4, a5⟩ := d
      go_enter Try.func43, Try.ntmps43
      go_wp2
      go_ret2
      exact ⟨rfl, (Ext.refl w).alloc _⟩
  · have d1 : (at_ % 4 != 0) = true := by simp; exact h4
    have hw : wordOk at_ = false := by unfold wordOk; simp; omega
    rw [show d.word at_ = 0 from by unfold Dat.word; rw [if_neg (by rw [hw]; simp)], show wordErr at_ = 41 from by unfold wordErr; rw [if_neg (by rw [hw]; simp)]]
    clear h4 hw
    obtain ⟨nr, arch, ip, a0, a1, a2, a3, a4, a5⟩ := d
    go_enter Try.func43, Try.ntmps43
    go_wp2
    go_ret2
    exact ⟨rfl, (Ext.refl w).alloc _⟩
end Go.Proofs.Ytlicndonhmcmmaa
