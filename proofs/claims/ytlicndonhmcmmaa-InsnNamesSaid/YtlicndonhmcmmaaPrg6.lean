import Derived.Test.YtlicndonhmcmmaaPrg5
namespace Go.Proofs.Ytlicndonhmcmmaa
open Go.RowKit Go.ChangeShapes Go.WideShapes
set_option linter.unusedVariables false
set_option linter.unusedSimpArgs false

/-- The first m instructions of bytes. -/
def dp (bs : List Int) (m : Nat) : List Ins := (List.range m).map fun x => decI (piece bs x)
theorem dp_succ (bs : List Int) (m : Nat) : dp bs (m + 1) = dp bs m ++ [decI (piece bs m)] := by simp [dp, List.range_succ]
theorem dp_length (bs : List Int) (m : Nat) : (dp bs m).length = m := by simp [dp]
theorem insC_dp (bs : List Int) (m : Nat) : insC bs (List.range m) = pc (dp bs m) := insC_pc bs _
theorem decI_ok {ys : List Int} (h : Byt ys) : (decI ys).ok := by
  have a := getB_bd h 0 2
  have b := getB_bd h 4 4
  have g : ∀ k, 0 ≤ ys.getD k 0 ∧ ys.getD k 0 < 256 := fun k => by
    rw [List.getD_eq_getElem?_getD]
    by_cases hk : k < ys.length
    · rw [List.getElem?_eq_getElem hk]
      exact byt_at h hk
    · rw [List.getElem?_eq_none (by omega)]
      decide
  exact ⟨a, g 2, g 3, b⟩
theorem dp_ok {bs : List Int} (h : Byt bs) (m : Nat) : ∀ i ∈ dp bs m, i.ok := fun i hi => by
  obtain ⟨x, _, rfl⟩ := List.mem_map.1 hi
  exact decI_ok ((h.drop _).take _)

set_option maxRecDepth 100000 in
theorem refParseI (A : Option Addr) (m n c : Nat) (bs : List Int) (w : World) (hn : n = 8 * m) (hm : m ≤ 4096) (hb : n ≤ c ∧ c ≤ maxLen) (hl : bs.length = n) (hB : Byt bs) (hM : InM w A (nums .u8 bs)) :
    Calls Try.prog 47 #[.slice A n c] w fun e w' => ∃ P c', e = .returned (.tuple #[.slice P m c', .int .i64 0]) ∧ w'.ownsRow w.heap.size 73 4 (.slice P m c') m (pc (dp bs m)) ∧ Ext w w' := by
  have d1 : ((n : Int) % 8 != 0) = false := by simp; omega
  have d2 : decide (32768 < (n : Int)) = false := by simp; omega
  obtain ⟨i0, hi, hz0, hz1, hz2⟩ := info_parts info_ins
  have HI := Lib.hid hi; have HZ0 := Lib.hid hz0; have HZ1 := Lib.hid hz1; have HZ2 := Lib.hid hz2; have HN := Lib.hid hn; have HL := Lib.hid hl
  have hn2 : n ≤ 32768 := by omega
  have hc := hb.1
  have hc2 : c ≤ 9223372036854775807 := by have := hb.2; unfold maxLen at this; omega
  clear hi hz0 hz1 hz2 hn hl hb
  go_enter Try.func47, Try.ntmps47
  go_wp2
  go_loopw [4, 5] (fun v i wr => ∃ (k q c' : Nat) (B : Option Addr), k ≤ m ∧ q = 8 * k ∧ i = .int .i64 q ∧ v = .slice B k c' ∧ Ext w wr ∧ wr.ownsRow w.heap.size 73 4 (.slice B k c') k (pc (dp bs k))) (fun _ i _ => n - (intOf i).toNat)
  case atStart => exact ⟨0, 0, 0, none, by omega, rfl, rfl, rfl, Ext.refl _, World.ownsRow_nil _ _ _ _⟩
  case round =>
    obtain ⟨k, q, c', B, hk, hq, rfl, rfl, hx, hown⟩ := hrel
    by_cases hlt : k < m
    · have q1 : q + 8 ≤ n := by have := HN.out; omega
      obtain ⟨b1, o1, rfl, _⟩ := hM.some_ (by rw [List.length_map, HL.out]; omega)
      have hp : InM wr (some ⟨b1, o1 + q, none⟩) (nums .u8 (piece bs k)) := by
        unfold piece
        rw [← hq]
        exact (hM.ext hx).seg q 8
      have hpl : (piece bs k).length = 8 := by
        have := HL.out
        unfold piece
        rw [List.length_take, List.length_drop]
        omega
      have HD := Lib.hid (fun c => refDecode (some ⟨b1, o1 + q, none⟩) c (piece bs k) wr hpl ((hB.drop _).take _) hp)
      have HS := Lib.hid (dp_succ bs k)
      have HQ := Lib.hid hq
      have q2 : (q : Int) < n := by omega
      have q3 : (q : Int) + 8 ≤ c := by omega
      have q4 : (0 : Int) ≤ q := by omega
      have q5 : q ≤ 32768 := by omega
      have k1 : k ≤ 4096 := by omega
      have s1 : IntKind.i64.wrap ((q : Int) + 8) = (q : Int) + 8 := IntWalk.i64_in _ (by omega)
      have s2 : ((q : Int) + 8).toNat - q = 8 := by omega
      have s3 : (q : Int) ≤ (q : Int) + 8 := by omega
      generalize decI (piece bs k) = E at *
      obtain ⟨co, jt, jf, kk⟩ := E
      simp only [Ins.val, Ins.cells] at HD
      clear hq hpl hp
      go_wp2_with fail
      refine (HD.out _).mono ?_
      rintro e w1 ⟨rfl, hx1⟩
      have hown1 := own_ext hown (hx1.alloc (.cells #[.int .u16 co, .int .u8 jt, .int .u8 jf, .int .u32 kk] 73))
      have hg : w.heap.size ≤ (w1.alloc (.cells #[.int .u16 co, .int .u8 jt, .int .u8 jf, .int .u32 kk] 73)).heap.size := ((hx.trans hx1).alloc _).size
      go_wp2_with (refine wpList_app rfl (.tmp 19) (.tmp 26) 67 rfl w.heap.size 73 i0 _ 4 8 Try.underlying67 HI.out HZ0.out HZ1.out HZ2.out rfl (by decide) B k c' _ rfl hown1 _ 1 1 [.int .u16 co, .int .u8 jt, .int .u8 jf, .int .u32 kk] rfl rfl (inM_new rfl) (by simp [Value.oneCell']) (by omega) (by decide) hg ?_; intro A' c2' w2 hown2 hgrow _; have hx2 := ((hx.trans hx1).alloc _).app hown1 (Nat.le_refl _) hgrow)
      go_roundw
      case rel => exact ⟨k + 1, q + 8, c2', A', by omega, by have := HQ.out; omega, by go_num, rfl, hx2, by rw [HS.out, pc_append]; exact hown2⟩
      case measure => simp [intOf]; omega
    · obtain rfl : k = m := by omega
      have hge : (n : Int) ≤ q := by have := HN.out; omega
      clear hq
      go_wp2
      go_ret2
      exact ⟨_, _, rfl, hown, hx⟩
theorem refParse_odd (A : Option Addr) (n c : Nat) (w : World) (hn : ¬ n % 8 = 0) :
    Calls Try.prog 47 #[.slice A n c] w fun e w' => e = .returned (.tuple #[.slice none 0 0, .int .i64 20]) ∧ Ext w w' := by
  have d1 : ((n : Int) % 8 != 0) = true := by simp; omega
  clear hn
  go_enter Try.func47, Try.ntmps47
  go_wp2
  go_ret2
  exact ⟨rfl, Ext.refl _⟩
end Go.Proofs.Ytlicndonhmcmmaa
