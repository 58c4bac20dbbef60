import Derived.Test.YtjlhfmedaandeaaLink1
import Derived.Test.YtjlhfmedaandeaaBig1
/- The law LinkBig, walked. -/
namespace Go.Proofs.Ytjlhfmedaandeaa
open Go.RowKit Go.ChangeShapes Go.WideShapes
set_option linter.unusedVariables false
set_option linter.unusedSimpArgs false

def ldS : Sy := ⟨32, 0, 0, 0⟩
def lds (k n : Nat) : List Sy := List.replicate k ldS ++ List.replicate (n - k) zeroS
theorem lds_len (k n : Nat) (h : k ≤ n) : (lds k n).length = n := by simp [lds]; omega
theorem lds_set (k n : Nat) (h : k < n) : ((sc (lds k n)).toArray.setIfInBounds (k * 4) (.int .u16 32)) = (sc (lds (k + 1) n)).toArray := by
  apply Array.toList_inj.1
  rw [Array.toList_setIfInBounds]
  have e1 : lds k n = List.replicate k ldS ++ (zeroS :: List.replicate (n - (k + 1)) zeroS) := by
    unfold lds
    rw [show n - k = (n - (k + 1)) + 1 by omega, List.replicate_succ]
  have e2 : lds (k + 1) n = List.replicate k ldS ++ (ldS :: List.replicate (n - (k + 1)) zeroS) := by
    unfold lds
    rw [List.replicate_succ', List.append_assoc]
    rfl
  rw [e1, e2]
  simp only [List.toList_toArray]
  rw [sc_append, sc_append, List.set_append_right _ _ (by rw [sc_length, List.length_replicate]; omega), sc_length, List.length_replicate, sc_cons, sc_cons]
  rw [show k * 4 - 4 * k = 0 by omega]
  rfl
theorem rep4s : ∀ n : Nat, (madeCells #[Value.int .u16 0, .int .u32 0, .int .i64 0, .int .i64 0] (n * 4)).toList = sc (List.replicate n zeroS) := fun n => by
  apply List.ext_getElem?
  intro j
  by_cases hj : j < n * 4
  · have hq : j / 4 < (List.replicate n zeroS).length := by rw [List.length_replicate]; omega
    have := sc_at (List.replicate n zeroS) (j / 4) (j % 4) hq (by omega)
    rw [show j / 4 * 4 + j % 4 = j from by omega] at this
    rw [this, List.getElem_replicate]
    have h4 : j % 4 < 4 := by omega
    simp only [madeCells, Array.toList_map, List.getElem?_map, Array.toList_range, List.getElem?_range hj, Option.map_some]
    have e : (#[Value.int .u16 0, .int .u32 0, .int .i64 0, .int .i64 0] : Array Value).size = 4 := rfl
    rw [e]
    generalize j % 4 = r at *
    match r, h4 with
    | 0, _ => rfl
    | 1, _ => rfl
    | 2, _ => rfl
    | 3, _ => rfl
  · rw [List.getElem?_eq_none, List.getElem?_eq_none]
    · rw [sc_length, List.length_replicate]; omega
    · rw [Array.length_toList, size_madeCells]; omega
theorem last_set (n : Nat) (hn : 4090 ≤ n) : ((sc (List.replicate n ldS)).toArray.setIfInBounds ((n - 1) * 4) (.int .u16 6)) = (sc (bigRow n false)).toArray := by
  apply Array.toList_inj.1
  rw [Array.toList_setIfInBounds]
  have e1 : List.replicate n ldS = List.replicate (n - 1) ldS ++ [ldS] := by rw [← List.replicate_succ', show n - 1 + 1 = n by omega]
  have e2 : bigRow n false = List.replicate (n - 1) ldS ++ [⟨6, 0, 0, 0⟩] := by
    unfold bigRow
    simp only [Bool.false_eq_true, if_false]
    rw [show n - 1 = (n - 2) + 1 by omega, List.replicate_succ, List.cons_append]
    rfl
  rw [e1, e2]
  simp only [List.toList_toArray]
  rw [sc_append, sc_append, List.set_append_right _ _ (by rw [sc_length, List.length_replicate]; omega), sc_length, List.length_replicate, show (n - 1) * 4 - 4 * (n - 1) = 0 by omega]
  rfl
theorem far_splice (n : Nat) : splice (sc (bigRow n false)) 0 [.int .u16 21, .int .u32 0, .int .i64 1, .int .i64 ((n : Int) - 1)] = sc (bigRow n true) := by
  unfold bigRow splice
  simp only [Bool.false_eq_true, if_false, if_true, sc_cons, List.take_zero, List.nil_append, Nat.zero_add]
  rfl
set_option maxHeartbeats 2000000 in
set_option maxRecDepth 100000 in
theorem linkBig_walk (a : Int) (ha : (Lit.int .i64 a).wf = true) (far : Bool) (W : World) :
    Calls Try.prog 4 #[.int .i64 a, .bool far] W fun e w' => e = .returned (.bool true) ∧ Ext W w' := by
  by_cases h1 : a < 4090
  · go_enter Try.func4, Try.ntmps4
    go_wp2
    go_ret
    exact ⟨rfl, Ext.refl _⟩
  by_cases h2 : 4100 < a
  · go_enter Try.func4, Try.ntmps4
    go_wp2
    go_ret
    exact ⟨rfl, Ext.refl _⟩
  obtain ⟨n, rfl⟩ : ∃ n : Nat, a = (n : Int) := ⟨a.toNat, by omega⟩
  have n1 : 4090 ≤ n := by omega
  have n2 : n ≤ 4100 := by omega
  obtain ⟨i0, hi, hz0, hz1, hz2⟩ := info_parts info_sym
  have hrep : (madeCells #[Value.int .u16 0, .int .u32 0, .int .i64 0, .int .i64 0] (n * 4)) = (sc (lds 0 n)).toArray := by
    apply Array.toList_inj.1
    rw [rep4s]
    simp [lds]
  have hmk : ∀ w : World, (Instr.makeSlice 22 (.int .i64 (n : Int)) (.int .i64 (n : Int))).run Try.prog w = .ok (.slice (some ⟨w.heap.size, 0, none⟩) n n) (w.alloc (.cells (sc (lds 0 n)).toArray 32)) := fun w => by
    have := make_run 22 32 i0 _ Try.underlying22 hi hz0 .i64 .i64 n n (Nat.le_refl _) (by omega) (by omega) w
    rw [hz1] at this
    rw [← hrep]
    exact this
  clear hi hz0 hz1 hz2 ha h1 h2 hrep
  have hx := (Ext.refl W).alloc (.cells (sc (lds 0 n)).toArray 32)
  have hB := Blk.new W 32 (sc (lds 0 n)).toArray
  have HTS := Lib.hid (lds_set · n)
  have HTL := Lib.hid (fun k h => lds_len k n h)
  have LS6 := Lib.hid (last_set n n1)
  have FSP := Lib.hid (far_splice n)
  have m1 : IntKind.i64.wrap ((n : Int) - 1) = ((n - 1 : Nat) : Int) := by rw [show ((n - 1 : Nat) : Int) = (n : Int) - 1 by omega]; exact IntWalk.i64_in _ (by omega)
  have m2 : IntKind.i64.wrap ((n : Int) + 2) = (n : Int) + 2 := IntWalk.i64_in _ (by omega)
  have mn : ((n - 1 : Nat) : Int) = (n : Int) - 1 := by omega
  have MN := Lib.hid mn
  have HLN := Lib.hid (fun f => bigRow_len n f n1)
  have HBL := Lib.hid (fun f => big_len n f n1 n2)
  have HNO := Lib.hid (fun f A c W h hb => linkBigI A n c (bigRow n f) W (bigRow_len n f n1) (bigRow_ok n f n1 n2) h (bigRow_may n f n1 n2) hb)
  have HYES := Lib.hid (fun f A c W h hb => linkYesI A n c (bigRow n f) W (bigRow_len n f n1) (bigRow_ok n f n1 n2) h (bigRow_may n f n1 n2) hb)
  clear mn
  go_enter Try.func4, Try.ntmps4
  go_wp2_with fail
  go_loopw [6] (fun i wr => ∃ k : Nat, k ≤ n ∧ i = .int .i64 k ∧ Ext W wr ∧ Blk wr W.heap.size 32 (sc (lds k n)).toArray) (fun i _ => n - (intOf i).toNat)
  case atStart => exact ⟨0, by omega, rfl, hx, hB⟩
  case round =>
    clear hx hB
    obtain ⟨k, hk, rfl, hx, hB⟩ := hrel
    by_cases hlt : k < n
    · have k1 : (0 : Int) ≤ k := by omega
      have k2 : (k : Int) < n := by omega
      obtain ⟨v, hv⟩ : ∃ v, wr.cell? ⟨W.heap.size, k * 4, none⟩ = some v := ⟨_, (hB.cell (k * 4)).trans (Array.getElem?_eq_getElem (by simp [sc_length, HTL.out k hk]; omega))⟩
      have hf := hB.frozen (k * 4)
      have hB2 := hB.set_ (k * 4) (.int .u16 32)
      rw [HTS.out k hlt] at hB2
      have hx2 := Ext.set hx (p := ⟨W.heap.size, k * 4, none⟩) (Nat.le_refl _) (.int .u16 32)
      have HB2 := Lib.hid hB2
      have HX2 := Lib.hid hx2
      clear hB2 hx2 hB hx
      go_wp2_with fail
      go_roundw
      case rel => exact ⟨k + 1, by omega, by go_num, HX2.out, HB2.out⟩
      case measure => simp [intOf]; omega
    · obtain rfl : k = n := by omega
      have hall : lds k k = List.replicate k ldS := by simp [lds]
      rw [hall] at hB
      clear hall hmk HTS HTL
      obtain ⟨v, hv⟩ : ∃ v, wr.cell? ⟨W.heap.size, (k - 1) * 4, none⟩ = some v := ⟨_, (hB.cell ((k - 1) * 4)).trans (Array.getElem?_eq_getElem (by simp [sc_length]; omega))⟩
      have hf := hB.frozen ((k - 1) * 4)
      have hB2 := hB.set_ ((k - 1) * 4) (.int .u16 6)
      rw [LS6.out] at hB2
      have hx2 := Ext.set hx (p := ⟨W.heap.size, (k - 1) * 4, none⟩) (Nat.le_refl _) (.int .u16 6)
      have HB2 := Lib.hid hB2
      have HX2 := Lib.hid hx2
      have k0 : (0 : Int) ≤ ((k - 1 : Nat) : Int) := by omega
      have k2 : ((k - 1 : Nat) : Int) < k := by omega
      have k3 : (0 : Int) < k := by omega
      generalize hmk1 : k - 1 = mm at *
      have HMK := Lib.hid hmk1
      clear hB2 hx2 hB hx hmk1
      cases far with
      | false =>
        by_cases big : 4096 < k
        · have b1 : decide ((4096 : Int) < k) = true := by simp; omega
          go_wp2_with fail
          refine (HNO.out false _ _ _ (InM.ofBlk HB2.out rfl) (by rw [HBL.out]; exact big)).mono ?_
          rintro e w9 ⟨rfl, hx9⟩
          go_wp2_with fail
          go_ret
          exact ⟨rfl, HX2.out.trans hx9⟩
        · have b1 : decide ((4096 : Int) < k) = false := by simp; omega
          have hbl := HBL.out false
          simp only [Bool.false_eq_true, if_false] at hbl
          go_wp2_with fail
          refine (HYES.out false _ _ _ (InM.ofBlk HB2.out rfl) (by rw [hbl]; omega)).mono ?_
          rintro e w9 ⟨g, cv, more, rfl, hb9, _, hx9⟩
          rw [hbl]
          have sk : ((k : Int) == k) = true := by simp
          go_wp2_with fail
          go_ret
          exact ⟨rfl, HX2.out.trans hx9⟩
      | true =>
        go_wp2_with (refine wpList_store_row rfl 32 (.tmp 38) (.tmp 37) rfl W.heap.size 0 32 (sc (bigRow k false)) #[.int .u16 21, .int .u32 0, .int .i64 1, .int .i64 mm] rfl rfl HB2.out (by rw [sc_length, HLN.out]; simp; omega) (by kernel_rfl) (by simp [Value.oneCell']) ?_; intro w7 hb7 hg7)
        have hb8 : Blk w7 W.heap.size 32 (sc (bigRow k true)).toArray := by
          have h := hb7
          have e9 : (mm : Int) = (k : Int) - 1 := MN.out
          have e8 := FSP.out
          rw [← e9] at e8
          first
            | (rw [e8] at h; exact h)
            | (simp only [e8] at h; exact h)
        have HX3 := Lib.hid (HX2.out.grown hg7 (fun q e => by cases e; exact Nat.le_refl _))
        have HB3 := Lib.hid hb8
        clear hb7 hb8 hg7
        have hbl := HBL.out true
        simp only [if_true] at hbl
        have HBLT := Lib.hid hbl
        clear hbl
        by_cases big : 4096 < k + 2
        · have b1 : decide ((4096 : Int) < (k : Int) + 2) = true := by simp; omega
          go_wp2_with fail
          refine (HNO.out true _ _ _ (InM.ofBlk HB3.out rfl) (by rw [HBLT.out]; exact big)).mono ?_
          rintro e w9 ⟨rfl, hx9⟩
          go_wp2_with fail
          go_ret
          exact ⟨rfl, HX3.out.trans hx9⟩
        · have b1 : decide ((4096 : Int) < (k : Int) + 2) = false := by simp; omega
          go_wp2_with fail
          refine (HYES.out true _ _ _ (InM.ofBlk HB3.out rfl) (by rw [HBLT.out]; omega)).mono ?_
          rintro e w9 ⟨g, cv, more, rfl, hb9, _, hx9⟩
          rw [HBLT.out]
          have sk : (((k : Int) + 2) == (k : Int) + 2) = true := by simp
          go_wp2_with fail
          go_ret
          exact ⟨rfl, HX3.out.trans hx9⟩
end Go.Proofs.Ytjlhfmedaandeaa
