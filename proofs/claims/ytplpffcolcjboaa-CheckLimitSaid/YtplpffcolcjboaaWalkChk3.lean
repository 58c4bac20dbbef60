import Derived.Test.YtplpffcolcjboaaChk6
import Derived.Test.YtplpffcolcjboaaCells22
import Derived.Test.YtplpffcolcjboaaWalkInsn4
/- The law CheckLimit, walked. -/
namespace Go.Proofs.Ytplpffcolcjboaa
open Go.RowKit Go.ChangeShapes Go.WideShapes
set_option linter.unusedVariables false
set_option linter.unusedSimpArgs false

def retI : Ins := ⟨6, 0, 0, 0⟩
def taxRet (n : Nat) : List Ins := List.replicate (n - 1) taxI ++ [retI]
theorem taxRet_len (n : Nat) (h : 1 ≤ n) : (taxRet n).length = n := by simp [taxRet]; omega
theorem taxRet_ok (n : Nat) : ∀ i ∈ taxRet n, i.ok := fun i hi => by
  rcases List.mem_append.1 hi with h | h
  · obtain rfl := List.eq_of_mem_replicate h; exact tax_ok
  · rw [List.mem_singleton.1 h]; exact ⟨by decide, by decide, by decide, by decide⟩
theorem taxRet_set (n : Nat) (h : 1 ≤ n) : ((pc (List.replicate n taxI)).toArray.setIfInBounds ((n - 1) * 4) (.int .u16 6)) = (pc (taxRet n)).toArray := by
  apply Array.toList_inj.1
  rw [Array.toList_setIfInBounds]
  have e1 : List.replicate n taxI = List.replicate (n - 1) taxI ++ [taxI] := by
    have : n = (n - 1) + 1 := by omega
    rw [this, List.replicate_succ']
    simp
  unfold taxRet
  rw [e1]
  simp only [List.toList_toArray]
  rw [pc_append, pc_append, List.set_append_right _ _ (by rw [pc_length, List.length_replicate]; omega), pc_length, List.length_replicate]
  rw [show (n - 1) * 4 - 4 * (n - 1) = 0 by omega]
  rfl
theorem tax_one (l : Int) : oneE taxI l = 0 := by
  have h1 : wr1 taxI = false := by kernel_rfl
  have h6 : wr6 taxI (max l 0) = false := by
    unfold wr6
    rw [if_neg (by decide), show (clsOf taxI.code == 4) = false by kernel_rfl]
    rfl
  have h3 : wr3 taxI = false := by
    unfold wr3
    rw [show (clsOf taxI.code == 2) = false by kernel_rfl]
    rfl
  unfold oneE
  rw [h1, h3, h6]
  rfl
theorem ret_one (l : Int) : oneE retI l = 0 := by
  have h1 : wr1 retI = false := by kernel_rfl
  have h6 : wr6 retI (max l 0) = false := by
    unfold wr6
    rw [if_neg (by decide), show (clsOf retI.code == 4) = false by kernel_rfl]
    rfl
  have h3 : wr3 retI = false := by
    unfold wr3
    rw [show (clsOf retI.code == 2) = false by kernel_rfl]
    rfl
  unfold oneE
  rw [h1, h3, h6]
  rfl
theorem unsure_nil (ps : List Ins) (h : ∀ i ∈ ps, rdb i = false) : unsureL ps = [] := by
  have hz : rdb zeroI = false := by decide
  unfold unsureL unU
  rw [List.filterMap_eq_nil_iff]
  intro j hj
  have : rdb (ps.getD j zeroI) = false := by
    rw [List.getD_eq_getElem?_getD]
    by_cases hl : j < ps.length
    · rw [List.getElem?_eq_getElem hl]; exact h _ (List.getElem_mem hl)
    · rw [List.getElem?_eq_none (by omega)]; exact hz
  unfold badR
  rw [this]
  simp
theorem taxRet_at (n : Nat) (h1 : 1 ≤ n) (h2 : n ≤ 4096) : atE (taxRet n) = (0, 0) := by
  have hl := taxRet_len n h1
  rw [atE_rest (taxRet n) (by omega) (fun j hj => ?_) ?_, unsure_nil]
  · intro i hi
    rcases List.mem_append.1 hi with h | h
    · obtain rfl := List.eq_of_mem_replicate h; rfl
    · rw [List.mem_singleton.1 h]; rfl
  · rw [hl]
    unfold taxRet
    rw [List.getD_eq_getElem?_getD, List.getElem?_append_right (by simp), List.length_replicate]
    simp only [Nat.sub_self, List.getElem?_cons_zero, Option.getD_some]
    kernel_rfl
  · unfold errAt
    rw [List.getD_eq_getElem?_getD, List.getElem?_eq_getElem hj]
    have hm := List.getElem_mem hj
    show oneE (taxRet n)[j] _ = 0
    rcases List.mem_append.1 hm with h | h
    · rw [List.eq_of_mem_replicate h]; exact tax_one _
    · rw [List.mem_singleton.1 h]; exact ret_one _
set_option maxHeartbeats 2000000 in
set_option maxRecDepth 100000 in
theorem checkLimit_walk (a : Int) (ha : (Lit.int .i64 a).wf = true) (W : World) :
    Calls Try.prog 5 #[.int .i64 a] W fun e w' => e = .returned (.bool true) ∧ Ext W w' := by
  by_cases h1 : a < 4090
  · go_enter Try.func5, Try.ntmps5
    go_wp2
    go_ret
    exact ⟨rfl, Ext.refl _⟩
  by_cases h2 : 4100 < a
  · go_enter Try.func5, Try.ntmps5
    go_wp2
    go_ret
    exact ⟨rfl, Ext.refl _⟩
  obtain ⟨n, rfl⟩ : ∃ n : Nat, a = (n : Int) := ⟨a.toNat, by omega⟩
  have n1 : 4090 ≤ n := by omega
  have n2 : n ≤ 4100 := by omega
  obtain ⟨i0, hi, hz0, hz1, hz2⟩ := info_parts info_ins
  have hrep : (madeCells #[Value.int .u16 0, .int .u8 0, .int .u8 0, .int .u32 0] (n * 4)) = (pc (taxs 0 n)).toArray := by
    apply Array.toList_inj.1
    rw [rep4, taxs_zero]
  have hmk : ∀ w : World, (Instr.makeSlice 30 (.int .i64 (n : Int)) (.int .i64 (n : Int))).run Try.prog w = .ok (.slice (some ⟨w.heap.size, 0, none⟩) n n) (w.alloc (.cells (pc (taxs 0 n)).toArray 25)) := fun w => by
    have := make_run 30 25 i0 _ Try.underlying30 hi hz0 .i64 .i64 n n (Nat.le_refl _) (by omega) (by omega) w
    rw [hz1] at this
    rw [← hrep]
    exact this
  clear hi hz0 hz1 hz2 ha h1 h2 hrep
  have hx := (Ext.refl W).alloc (.cells (pc (taxs 0 n)).toArray 25)
  have hB := Blk.new W 25 (pc (taxs 0 n)).toArray
  have HTS := Lib.hid (taxs_set · n)
  have HTL := Lib.hid (fun k h => taxs_len k n h)
  have R := Lib.hid (fun A c W h => checkAt A n c (taxRet n) W (taxRet_len n (by omega)) (taxRet_ok n) (by omega) h)
  go_enter Try.func5, Try.ntmps5
  go_wp2_with fail
  go_loopw [4] (fun i wr => ∃ k : Nat, k ≤ n ∧ i = .int .i64 k ∧ Ext W wr ∧ Blk wr W.heap.size 25 (pc (taxs k n)).toArray) (fun i _ => n - (intOf i).toNat)
  case atStart => exact ⟨0, by omega, rfl, hx, hB⟩
  case round =>
    clear hx hB
    obtain ⟨k, hk, rfl, hx, hB⟩ := hrel
    by_cases hlt : k < n
    · have k1 : (0 : Int) ≤ k := by omega
      have k2 : (k : Int) < n := by omega
      obtain ⟨v, hv⟩ : ∃ v, wr.cell? ⟨W.heap.size, k * 4, none⟩ = some v := ⟨_, (hB.cell (k * 4)).trans (Array.getElem?_eq_getElem (by simp [pc_length, HTL.out k hk]; omega))⟩
      have hf := hB.frozen (k * 4)
      have hB2 := hB.set_ (k * 4) (.int .u16 7)
      rw [HTS.out k hlt] at hB2
      have hx2 := Ext.set hx (p := ⟨W.heap.size, k * 4, none⟩) (Nat.le_refl _) (.int .u16 7)
      have HB2 := Lib.hid hB2
      have HX2 := Lib.hid hx2
      clear hB2 hx2 hB hx
      go_wp2_with fail
      go_roundw
      case rel => exact ⟨k + 1, by omega, by go_num, HX2.out, HB2.out⟩
      case measure => simp [intOf]; omega
    · obtain rfl : k = n := by omega
      rw [taxs_all] at hB
      have hkm : (k : Int) - 1 = ((k - 1 : Nat) : Int) := by omega
      have t1 : IntKind.i64.wrap ((k : Int) - 1) = ((k - 1 : Nat) : Int) := by rw [hkm]; exact IntWalk.i64_in _ (by omega)
      have t2 : (0 : Int) ≤ ((k - 1 : Nat) : Int) := by omega
      have t3 : ((k - 1 : Nat) : Int) < k := by omega
      obtain ⟨v, hv⟩ : ∃ v, wr.cell? ⟨W.heap.size, (k - 1) * 4, none⟩ = some v := ⟨_, (hB.cell ((k - 1) * 4)).trans (Array.getElem?_eq_getElem (by simp [pc_length]; omega))⟩
      have hf := hB.frozen ((k - 1) * 4)
      have hB2 := hB.set_ ((k - 1) * 4) (.int .u16 6)
      rw [taxRet_set k (by omega)] at hB2
      have hx2 := Ext.set hx (p := ⟨W.heap.size, (k - 1) * 4, none⟩) (Nat.le_refl _) (.int .u16 6)
      have hM : InM (wr.setCell ⟨W.heap.size, (k - 1) * 4, none⟩ (.int .u16 6)) (some ⟨W.heap.size, 0, none⟩) (pc (taxRet k)) := InM.ofBlk hB2 (by simp)
      have HM := Lib.hid hM
      have HX2 := Lib.hid hx2
      clear hM hx2 hB2 hB hx hmk HTS HTL hkm
      by_cases big : 4096 < k
      · have b1 : (4096 : Int) < k := by omega
        have er : atE (taxRet k) = (0, 60) := atE_size _ (.inr (by rw [taxRet_len k (by omega)]; exact big))
        rw [er] at R
        clear er
        generalize hk1 : k - 1 = k1 at *
        clear hk1
        go_wp2_with fail
        refine (R.out _ _ _ HM.out).mono ?_
        rintro e w1 ⟨rfl, hx1⟩
        go_wp2
        go_ret
        exact ⟨rfl, HX2.out.trans hx1⟩
      · have b1 : ¬ (4096 : Int) < k := by omega
        have er := taxRet_at k (by omega) (by omega)
        rw [er] at R
        clear er
        generalize hk1 : k - 1 = k1 at *
        clear hk1
        go_wp2_with fail
        refine (R.out _ _ _ HM.out).mono ?_
        rintro e w1 ⟨rfl, hx1⟩
        go_wp2
        go_ret
        exact ⟨rfl, HX2.out.trans hx1⟩
end Go.Proofs.Ytplpffcolcjboaa
