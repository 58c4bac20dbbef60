import Derived.Test.YtlicndonhmcmmaaPrg2
import Derived.Test.YtlicndonhmcmmaaData5
namespace Go.Proofs.Ytlicndonhmcmmaa
open Go.RowKit Go.ChangeShapes Go.WideShapes
set_option linter.unusedVariables false
set_option linter.unusedSimpArgs false

theorem nums_append (k : IntKind) (a b : List Int) : nums k (a ++ b) = nums k a ++ nums k b := List.map_append
set_option maxRecDepth 100000 in
theorem refCopyI (A : Option Addr) (n c : Nat) (ps : List Ins) (w : World) (hp : ps.length = n) (hb : n ≤ 1000000) (hM : InM w A (pc ps)) :
    Calls Try.prog 51 #[.slice A n c] w fun e w' => ∃ B c', e = .returned (.slice B n c') ∧ w'.ownsRow w.heap.size 73 4 (.slice B n c') n (pc ps) ∧ Ext w w' := by
  obtain ⟨i0, hi, hz0, hz1, hz2⟩ := info_parts info_ins
  have hown : w.ownsRow w.heap.size 73 4 (.slice none 0 0) 0 [] := World.ownsRow_nil _ _ _ _
  have hl : (pc ps).length = n * 4 := by rw [pc_length]; omega
  have h1 := pc_one ps
  have HI := Lib.hid hi; have HZ0 := Lib.hid hz0; have HZ1 := Lib.hid hz1; have HZ2 := Lib.hid hz2; have HL := Lib.hid hl
  clear hi hz0 hz1 hz2 hp hl
  go_enter Try.func51, Try.ntmps51
  go_wp2_with (refine wpList_app rfl (.tmp 4) (.tmp 5) 67 rfl w.heap.size 73 i0 _ 4 8 Try.underlying67 HI.out HZ0.out HZ1.out HZ2.out rfl (by decide) none 0 0 [] rfl hown A n c (pc ps) rfl HL.out hM h1 (by omega) (by decide) (Nat.le_refl _) ?_; intro A' c' w' hown' hgrow _)
  go_ret
  exact ⟨A', c', rfl, by simpa using hown', (Ext.refl w).app hown (Nat.le_refl _) hgrow⟩

theorem refPut2_own (x : Int) (w : World) (h0 : 0 ≤ x) (h1 : x < 256 ^ 8) :
    Calls Try.prog 25 #[.int .u64 x, .int .i64 2] w fun e w' => e = .returned (.slice (some ⟨w.heap.size, 0, none⟩) 2 2) ∧ w'.ownsRow w.heap.size 5 1 (.slice (some ⟨w.heap.size, 0, none⟩) 2 2) 2 (nums .u8 (leB 2 x)) ∧ Ext w w' :=
  (refPut2_blk x w h0 h1).mono fun e w' ⟨he, hb, hx, _⟩ => ⟨he, own_of_blk (cs := nums .u8 (leB 2 x)) (by simpa [leC] using hb) (Nat.le_refl _) (by simp [leB_length]) (by decide), hx⟩
theorem refPut4_own (x : Int) (w : World) (h0 : 0 ≤ x) (h1 : x < 256 ^ 8) :
    Calls Try.prog 25 #[.int .u64 x, .int .i64 4] w fun e w' => e = .returned (.slice (some ⟨w.heap.size, 0, none⟩) 4 4) ∧ InM w' (some ⟨w.heap.size, 0, none⟩) (nums .u8 (leB 4 x)) ∧ Ext w w' :=
  (refPut4_blk x w h0 h1).mono fun e w' ⟨he, hb, hx, _⟩ => ⟨he, leC_inM hb, hx⟩

set_option maxRecDepth 100000 in
theorem refEncode (i : Ins) (h : i.ok) (W : World) : Calls Try.prog 55 #[i.val] W fun e w' => ∃ A c', e = .returned (.slice A 8 c') ∧ InM w' A (nums .u8 i.bytes) ∧ Ext W w' := by
  obtain ⟨⟨c0, c1⟩, ⟨j0, j1⟩, ⟨f0, f1⟩, ⟨k0, k1⟩⟩ := h
  obtain ⟨co, jt, jf, k⟩ := i
  dsimp only at c0 c1 j0 j1 f0 f1 k0 k1
  obtain ⟨i0, hi, hz0, hz1, hz2⟩ := info_parts info_u8
  have P1 := Lib.hid (fun W => refPut2_own co W c0 (by omega))
  have P2 := Lib.hid (fun W => refPut4_own k W k0 (by omega))
  have HC := Lib.hid (fun A B c W hA hB => refCat A B 4 c 4 4 (leB 2 co ++ [jt, jf]) (leB 4 k) W (by simp [leB_length]) (leB_length _ _) (by decide) hA hB)
  have HI := Lib.hid hi; have HZ0 := Lib.hid hz0; have HZ1 := Lib.hid hz1; have HZ2 := Lib.hid hz2
  have hc1 : co < 65536 := by omega
  have hk1 : k < 4294967296 := by omega
  clear hi hz0 hz1 hz2 c1 k1
  unfold Ins.val Ins.cells Ins.bytes
  dsimp only
  have B := (Blk.new W 73 #[.int .u16 co, .int .u8 jt, .int .u8 jf, .int .u32 k])
  have hx0 := ((Ext.refl W).alloc (.cells #[.int .u16 co, .int .u8 jt, .int .u8 jf, .int .u32 k] 73))
  go_enter Try.func55, Try.ntmps55
  go_wp2_with fail
  generalize W.alloc (.cells #[.int .u16 co, .int .u8 jt, .int .u8 jf, .int .u32 k] 73) = W0 at *
  refine (P1.out _).mono ?_
  rintro e w1 ⟨rfl, hown, hx1⟩
  have b1 := (B.ext hx1).cell 1
  have b2 := (B.ext hx1).cell 2
  have hg : W0.heap.size ≤ w1.heap.size := hx1.size
  go_wp2_with (refine wpList_app rfl (.tmp 8) (.tmp 13) 23 rfl W0.heap.size 5 i0 _ 1 1 Try.underlying23 HI.out HZ0.out HZ1.out HZ2.out rfl (by decide) _ 2 2 (nums .u8 (leB 2 co)) rfl (hown.alloc _) _ 2 2 [.int .u8 jt, .int .u8 jf] rfl rfl (inM_new rfl) (by simp [Value.oneCell']) (by decide) (by decide) (by simp; omega) ?_; intro A' c' w2 hown2 hgrow _; have hx2 : Ext W0 w2 := ((hx1.alloc _).app (hown.alloc _) (Nat.le_refl _) hgrow); have b3 := (B.ext hx2).cell 3)
  refine (P2.out _).mono ?_
  rintro e w3 ⟨rfl, hm, hx3⟩
  go_wp2_with fail
  refine (HC.out A' _ c' w3 ((own_inM (xs := nums .u8 (leB 2 co ++ [jt, jf])) (by simpa using hown2)).ext hx3) hm).mono ?_
  rintro e w4 ⟨rfl, hb4, hx4⟩
  go_wp2
  go_ret
  exact ⟨_, _, rfl, InM.ofBlk hb4 (by simp), hx0.trans ((hx2.trans hx3).trans hx4)⟩

/-- A program's bytes. -/
def pb (ps : List Ins) : List Int := ps.flatMap Ins.bytes
theorem bytes_len (i : Ins) : i.bytes.length = 8 := by simp [Ins.bytes, leB_length]
theorem pb_append (a b : List Ins) : pb (a ++ b) = pb a ++ pb b := by simp [pb]
theorem pb_length : ∀ ps : List Ins, (pb ps).length = 8 * ps.length
  | [] => rfl
  | i :: ps => by
    have := pb_length ps
    simp only [pb, List.flatMap_cons, List.length_append, bytes_len] at this ⊢
    rw [this, List.length_cons]
    omega
theorem pb_take (ps : List Ins) (k : Nat) (hk : k < ps.length) : pb (ps.take (k + 1)) = pb (ps.take k) ++ ps[k].bytes := by
  rw [List.take_succ_eq_append_getElem hk, pb_append]
  simp [pb]

set_option maxRecDepth 100000 in
theorem refPrintI (A : Option Addr) (n c : Nat) (ps : List Ins) (w : World) (hp : ps.length = n) (hb : n ≤ 100000) (hok : ∀ i ∈ ps, i.ok) (hM : InM w A (pc ps)) :
    Calls Try.prog 52 #[.slice A n c] w fun e w' => ∃ B c', e = .returned (.slice B (8 * n) c') ∧ w'.ownsRow w.heap.size 5 1 (.slice B (8 * n) c') (8 * n) (nums .u8 (pb ps)) ∧ Ext w w' := by
  obtain ⟨i0, hi, hz0, hz1, hz2⟩ := info_parts info_u8
  have HI := Lib.hid hi; have HZ0 := Lib.hid hz0; have HZ1 := Lib.hid hz1; have HZ2 := Lib.hid hz2; have HP := Lib.hid hp
  clear hi hz0 hz1 hz2 hp
  go_enter Try.func52, Try.ntmps52
  go_wp2
  go_loopw [3, 4] (fun v i wr => ∃ (k q c' : Nat) (B : Option Addr), k ≤ n ∧ q = 8 * k ∧ i = .int .i64 k ∧ v = .slice B q c' ∧ Ext w wr ∧ wr.ownsRow w.heap.size 5 1 (.slice B q c') q (nums .u8 (pb (ps.take k)))) (fun _ i _ => n - (intOf i).toNat)
  case atStart => exact ⟨0, 0, 0, none, by omega, rfl, rfl, rfl, Ext.refl _, World.ownsRow_nil _ _ _ _⟩
  case round =>
    obtain ⟨k, q, c', B, hk, hq, rfl, rfl, hx, hown⟩ := hrel
    by_cases hlt : k < n
    · have hkp : k < ps.length := by rw [HP.out]; exact hlt
      obtain ⟨b1, o1, rfl, _⟩ := prog_some hM (by omega)
      obtain ⟨c0, c1, c2, c3⟩ := prog_cells (hM.ext hx) hkp
      have HE := Lib.hid (fun W => refEncode ps[k] (hok _ (List.getElem_mem hkp)) W)
      have HT := Lib.hid (pb_take ps k hkp)
      have HL := Lib.hid (bytes_len ps[k])
      have HQ := Lib.hid hq
      have hq2 : q ≤ 800000 := by omega
      generalize ps[k] = P at *
      obtain ⟨co, jt, jf, kk⟩ := P
      simp only [Ins.val, Ins.cells] at HE
      have b3 : (0 : Int) ≤ k := by omega
      have b4 : (k : Int) < n := by omega
      clear hq hkp
      go_wp2_with fail
      refine (HE.out _).mono ?_
      rintro e w1 ⟨E, ce, rfl, hm1, hx1⟩
      have hown1 := own_ext hown hx1
      have hg : w.heap.size ≤ w1.heap.size := (hx.trans hx1).size
      go_wp2_with (refine wpList_app rfl (.tmp 11) (.tmp 16) 23 rfl w.heap.size 5 i0 _ 1 1 Try.underlying23 HI.out HZ0.out HZ1.out HZ2.out rfl (by decide) _ q c' _ rfl hown1 _ 8 ce _ rfl (by rw [List.length_map, HL.out]) hm1 nums_one (by omega) (by decide) hg ?_; intro A' c2' w2 hown2 hgrow _; have hx2 := (hx.trans hx1).app hown1 (Nat.le_refl _) hgrow)
      go_roundw
      case rel => exact ⟨k + 1, q + 8, c2', A', by omega, by have := HQ.out; omega, by go_num, rfl, hx2, by rw [HT.out, nums_append]; exact hown2⟩
      case measure => simp [intOf]; omega
    · obtain rfl : k = n := by omega
      obtain rfl : q = 8 * k := hq
      rw [List.take_of_length_le (by rw [HP.out]; exact Nat.le_refl _)] at hown
      go_wp2
      go_ret
      exact ⟨B, c', rfl, hown, hx⟩
end Go.Proofs.Ytlicndonhmcmmaa
