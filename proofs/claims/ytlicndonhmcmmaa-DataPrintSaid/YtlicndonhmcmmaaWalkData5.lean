import Derived.Test.YtlicndonhmcmmaaData7
import Derived.Test.YtlicndonhmcmmaaDataEq
namespace Go.Proofs.Ytlicndonhmcmmaa
open Go.RowKit Go.ChangeShapes Go.WideShapes
set_option linter.unusedVariables false

/-- The first n cells of a row are numbers of a kind. -/
def Nums (kd : IntKind) (n : Nat) (cur : Array Value) : Prop := ∀ j, j < n → ∃ x, cur[j]? = some (.int kd x)
theorem Nums.set {kd : IntKind} {n : Nat} {cur : Array Value} (h : Nums kd n cur) (k : Nat) (x : Int) : Nums kd n (cur.setIfInBounds k (.int kd x)) := fun j hj => by
  rw [Array.getElem?_setIfInBounds]
  obtain ⟨y, hy⟩ := h j hj
  have hlt := (Array.getElem?_eq_some_iff.1 hy).1
  split
  · next e => subst e; rw [if_pos hlt]; exact ⟨_, rfl⟩
  · exact ⟨y, hy⟩
theorem own_blk {w : World} {base : Nat} {e : TypeId} {kd : IntKind} {n c : Nat} {A : Option Addr} {xs : List Int} (h : w.ownsRow base e 1 (.slice A n c) n (nums kd xs)) (hn : 0 < n) :
    ∃ g cur, A = some ⟨g, 0, none⟩ ∧ base ≤ g ∧ Blk w g e cur ∧ Nums kd n cur := by
  rcases h.2 with ⟨_, h0⟩ | ⟨g, cap, cur, hv, hb, hg, hc, _, hsz, ht⟩
  · omega
  · injection hv with hA
    refine ⟨g, cur, hA, hb, hg, fun j hj => ?_⟩
    have hl : xs.length = n := by have := h.1; rw [List.length_map] at this; omega
    have h1 : (nums kd xs)[j]? = some (.int kd (xs[j]'(by omega))) := nums_at (by omega)
    rw [← ht, List.getElem?_take, if_pos (by omega)] at h1
    exact ⟨_, by simpa using h1⟩

set_option maxRecDepth 100000 in
theorem dataPrint_walk (d : Dat) (hd : d.ok) (a : Int) (ha : (Lit.int .u32 a).wf = true) (W : World) :
    Calls Try.prog 8 #[d.val, .int .u32 a] W fun e w' => e = .returned (.bool true) ∧ Ext W w' := by
  obtain ⟨a0, a1⟩ := wf_u32 ha
  have HP := Lib.hid (fun W : World => print_any d hd W)
  have HR := Lib.hid (fun W : World => refPrint_any d hd W)
  have HW := Lib.hid (fun W : World => word_any d hd a W a0 a1)
  have HV := Lib.hid (fun W : World => refWord_any d hd a W a0 a1)
  have hl : d.bytes.length = 64 := prB_length d.words
  have HS := Lib.hid (fun (W : World) (A B : Option Addr) (c c' : Nat) (h1 : InM W A (nums .u8 d.bytes)) (h2 : InM W B (nums .u8 d.bytes)) => refSame_true A B 64 c c' d.bytes W hl (by decide) h1 h2)
  generalize d.bytes = bs at *
  generalize d.word a = x at *
  generalize wordErr a = y at *
  clear ha hl hd
  obtain ⟨nr, arch, ip, b0, b1, b2, b3, b4, b5⟩ := d
  go_enter Try.func8, Try.ntmps8
  go_wp2_with fail
  have B := Blk.new W 45 #[.int .u32 nr, .int .u32 arch, .int .u64 ip, .int .u64 b0, .int .u64 b1, .int .u64 b2, .int .u64 b3, .int .u64 b4, .int .u64 b5]
  have hx := (Ext.refl W).alloc (.cells #[.int .u32 nr, .int .u32 arch, .int .u64 ip, .int .u64 b0, .int .u64 b1, .int .u64 b2, .int .u64 b3, .int .u64 b4, .int .u64 b5] 45)
  have hsz : W.heap.size + 1 ≤ (W.alloc (.cells #[.int .u32 nr, .int .u32 arch, .int .u64 ip, .int .u64 b0, .int .u64 b1, .int .u64 b2, .int .u64 b3, .int .u64 b4, .int .u64 b5] 45)).heap.size := by simp
  generalize W.alloc (.cells #[.int .u32 nr, .int .u32 arch, .int .u64 ip, .int .u64 b0, .int .u64 b1, .int .u64 b2, .int .u64 b3, .int .u64 b4, .int .u64 b5] 45) = w0 at *
  refine wp_loop_rounds 3 ?_
  rw [rounds_succ]
  go_wp2_with (refine wpList_load_blk rfl 45 (.tmp _) rfl _ _ _ _ rfl B Try.underlying45 rfl (by kernel_rfl) ?_)
  refine (HP.out _).mono ?_
  rintro e w1 ⟨P0, c0, rfl, hown0, hx1⟩
  obtain ⟨g0, cur0, rfl, hg0, hB0, hN0⟩ := own_blk hown0 (by decide)
  have hm0 := own_inM hown0
  replace B := B.ext hx1
  replace hg0 : W.heap.size + 1 ≤ g0 := Nat.le_trans hsz hg0
  replace hsz := Nat.le_trans hsz hx1.size
  replace hx := hx.trans hx1
  clear hx1 hown0
  go_wp2_with (refine wpList_load_blk rfl 45 (.tmp _) rfl _ _ _ _ rfl B Try.underlying45 rfl (by kernel_rfl) ?_)
  refine (HR.out _).mono ?_
  rintro e w2 ⟨Q0, k0, rfl, hq0, hx1⟩
  replace hm0 := hm0.ext hx1
  replace hB0 := hB0.ext hx1
  replace B := B.ext hx1
  replace hsz := Nat.le_trans hsz hx1.size
  replace hx := hx.trans hx1
  clear hx1
  go_wp2_with fail
  refine (HS.out _ _ _ _ _ hm0 hq0).mono ?_
  rintro e w3 ⟨rfl, q, rfl⟩
  replace hB0 := hB0.drewN q
  replace B := B.drewN q
  replace hx := hx.drewN q
  clear hm0 hq0
  go_wp2_with fail
  generalize hz : w2.drewN q = z0 at *
  replace hsz : W.heap.size + 1 ≤ z0.heap.size := by subst hz; exact hsz
  clear hz
  go_loopw [7] (fun i wr => ∃ (k : Nat) (cur : Array Value), k ≤ 64 ∧ i = .int .i64 k ∧ Blk wr g0 5 cur ∧ Nums .u8 64 cur ∧ Blk wr W.heap.size 45 #[.int .u32 nr, .int .u32 arch, .int .u64 ip, .int .u64 b0, .int .u64 b1, .int .u64 b2, .int .u64 b3, .int .u64 b4, .int .u64 b5] ∧ Ext W wr ∧ W.heap.size + 1 ≤ wr.heap.size) (fun i _ => 64 - (intOf i).toNat)
  case atStart => exact ⟨0, cur0, by decide, rfl, hB0, hN0, B, hx, hsz⟩
  case round =>
    clear hB0 hN0 B hx hsz
    obtain ⟨k, cur, hk, rfl, hC, hN, B, hx, hsz⟩ := hrel
    by_cases hlt : k < 64
    · obtain ⟨v, hv⟩ := hN k hlt
      have hcell : wr.cell? ⟨g0, k, none⟩ = some (.int .u8 v) := by rw [hC.cell]; exact hv
      have hfz : wr.frozen? ⟨g0, k, none⟩ = false := hC.frozen k
      go_wp2
      go_roundw
      case rel => exact ⟨k + 1, _, by omega, by go_num, hC.set_ k _, hN.set k _, B.far (by simp; omega) _, hx.set (by simp; omega) _, by simpa using hsz⟩
      case measure => simp [intOf]; omega
    · obtain rfl : k = 64 := by omega
      go_wp2_with fail
      clear hlt hk hC hN
      rw [rounds_succ]
      go_wp2_with (refine wpList_load_blk rfl 45 (.tmp _) rfl _ _ _ _ rfl B Try.underlying45 rfl (by kernel_rfl) ?_)
      refine (HP.out _).mono ?_
      rintro e w1 ⟨P1, c1, rfl, hown1, hx1⟩
      obtain ⟨g1, cur1, rfl, hg1, hB1, hN1⟩ := own_blk hown1 (by decide)
      have hm1 := own_inM hown1
      replace B := B.ext hx1
      replace hg1 : W.heap.size + 1 ≤ g1 := Nat.le_trans hsz hg1
      replace hsz := Nat.le_trans hsz hx1.size
      replace hx := hx.trans hx1
      clear hx1 hown1
      go_wp2_with (refine wpList_load_blk rfl 45 (.tmp _) rfl _ _ _ _ rfl B Try.underlying45 rfl (by kernel_rfl) ?_)
      refine (HR.out _).mono ?_
      rintro e w2 ⟨Q1, k1, rfl, hq1, hx1⟩
      replace hm1 := hm1.ext hx1
      replace hB1 := hB1.ext hx1
      replace B := B.ext hx1
      replace hsz := Nat.le_trans hsz hx1.size
      replace hx := hx.trans hx1
      clear hx1
      go_wp2_with fail
      refine (HS.out _ _ _ _ _ hm1 hq1).mono ?_
      rintro e w3 ⟨rfl, q, rfl⟩
      replace hB1 := hB1.drewN q
      replace B := B.drewN q
      replace hx := hx.drewN q
      clear hm1 hq1
      go_wp2_with fail
      generalize hz : w2.drewN q = z1 at *
      replace hsz : W.heap.size + 1 ≤ z1.heap.size := by subst hz; exact hsz
      clear hz
      go_loopw [7] (fun i wr => ∃ (k : Nat) (cur : Array Value), k ≤ 64 ∧ i = .int .i64 k ∧ Blk wr g1 5 cur ∧ Nums .u8 64 cur ∧ Blk wr W.heap.size 45 #[.int .u32 nr, .int .u32 arch, .int .u64 ip, .int .u64 b0, .int .u64 b1, .int .u64 b2, .int .u64 b3, .int .u64 b4, .int .u64 b5] ∧ Ext W wr ∧ W.heap.size + 1 ≤ wr.heap.size) (fun i _ => 64 - (intOf i).toNat)
      case atStart => exact ⟨0, cur1, by decide, rfl, hB1, hN1, B, hx, hsz⟩
      case round =>
        clear hB1 hN1 B hx hsz
        obtain ⟨k, cur, hk, rfl, hC, hN, B, hx, hsz⟩ := hrel
        by_cases hlt : k < 64
        · obtain ⟨v, hv⟩ := hN k hlt
          have hcell : wr.cell? ⟨g1, k, none⟩ = some (.int .u8 v) := by rw [hC.cell]; exact hv
          have hfz : wr.frozen? ⟨g1, k, none⟩ = false := hC.frozen k
          go_wp2
          go_roundw
          case rel => exact ⟨k + 1, _, by omega, by go_num, hC.set_ k _, hN.set k _, B.far (by simp; omega) _, hx.set (by simp; omega) _, by simpa using hsz⟩
          case measure => simp [intOf]; omega
        · obtain rfl : k = 64 := by omega
          go_wp2_with fail
          clear hlt hk hC hN
          rw [rounds_succ]
          go_wp2_with (refine wpList_load_blk rfl 45 (.tmp _) rfl _ _ _ _ rfl B Try.underlying45 rfl (by kernel_rfl) ?_)
          refine (HW.out _).mono ?_
          rintro e w4 ⟨rfl, hx1⟩
          replace B := B.ext hx1
          replace hx := hx.trans hx1
          clear hx1
          go_wp2_with (refine wpList_load_blk rfl 45 (.tmp _) rfl _ _ _ _ rfl B Try.underlying45 rfl (by kernel_rfl) ?_)
          refine (HV.out _).mono ?_
          rintro e w5 ⟨rfl, hx1⟩
          replace hx := hx.trans hx1
          clear hx1
          go_wp2
          go_ret
          exact ⟨rfl, hx⟩
end Go.Proofs.Ytlicndonhmcmmaa
