import Derived.Test.YtlicndonhmcmmaaData7
import Derived.Test.YtlicndonhmcmmaaWalkWords
import Derived.Test.YtlicndonhmcmmaaDataEq
namespace Go.Proofs.Ytlicndonhmcmmaa
open Go.RowKit Go.ChangeShapes Go.WideShapes
set_option linter.unusedVariables false

set_option maxRecDepth 100000 in
theorem dataWords_walk (d : Dat) (hd : d.ok) (a : Int) (ha : (Lit.int .u32 a).wf = true) (W : World) :
    Calls Try.prog 10 #[d.val, .int .u32 a] W fun e w' => e = .returned (.bool true) ∧ Ext W w' := by
  obtain ⟨a0, a1⟩ := wf_u32 ha
  have HA := Lib.hid (fun W : World => awake03 W)
  have HW := Lib.hid (fun W : World => word_any d hd a W a0 a1)
  have HP := Lib.hid (fun W : World => print_any d hd W)
  clear ha
  by_cases h4 : a % 4 = 0
  · have d1 : (a % 4 != 0) = false := by simp; exact h4
    by_cases h64 : a < 64
    · have d2 : decide (64 ≤ a) = false := by simp; omega
      have hw : wordOk a = true := by unfold wordOk; simp; omega
      obtain ⟨k, rfl⟩ : ∃ k : Nat, a = 4 * (k : Int) := ⟨(a / 4).toNat, by omega⟩
      have hk : k < 16 := by omega
      have hg : getB d.bytes (4 * k) 4 = d.words.getD k 0 := getB_prB4 d.words k hk (words_u32 d hd)
      have hl : d.bytes.length = 64 := prB_length d.words
      have HG := Lib.hid (fun (W : World) (A : Option Addr) (c' : Nat) (hm : InM W A (nums .u8 d.bytes)) => get32_ok A 64 c' (4 * k) d.bytes W hl (by omega) (prB_byt d.words) hm (by omega))
      rw [show d.word (4 * (k : Int)) = d.words.getD k 0 from by unfold Dat.word; rw [if_pos hw, show (4 * (k : Int) / 4).toNat = k from by omega], show wordErr (4 * (k : Int)) = 0 from by unfold wordErr; rw [if_pos hw]] at HW
      rw [show ((4 * k : Nat) : Int) = 4 * (k : Int) from by omega, hg] at HG
      have s1 : IntKind.i64.wrap (4 * (k : Int)) = 4 * (k : Int) := IntWalk.i64_in _ (by omega)
      generalize d.words.getD k 0 = g at *
      generalize d.bytes = bs at *
      clear h4 hw h64 hg hl hd
      obtain ⟨nr, arch, ip, b0, b1, b2, b3, b4, b5⟩ := d
      go_enter Try.func10, Try.ntmps10
      go_wp2_with fail
      refine (HA.out _).mono ?_
      rintro e w0 ⟨rfl, hx0⟩
      have B := (Blk.new W _ _).ext hx0
      have hx := ((Ext.refl W).alloc _).trans hx0
      clear hx0
      go_wp2_with (refine wpList_load_blk rfl 45 (.tmp _) rfl _ _ _ _ rfl B Try.underlying45 rfl (by kernel_rfl) ?_)
      refine (HW.out _).mono ?_
      rintro e w1 ⟨rfl, hx1⟩
      replace B := B.ext hx1
      replace hx := hx.trans hx1
      clear hx1
      go_wp2_with (refine wpList_load_blk rfl 45 (.tmp _) rfl _ _ _ _ rfl B Try.underlying45 rfl (by kernel_rfl) ?_)
      refine (HP.out _).mono ?_
      rintro e w2 ⟨A, c', rfl, hown, hx2⟩
      go_wp2_with fail
      refine (keep (HG.out w2 A c' (own_inM hown))).mono ?_
      rintro e w3 ⟨rfl, hx3⟩
      go_wp2
      go_ret
      exact ⟨rfl, (hx.trans hx2).trans hx3⟩
    · have d2 : decide (64 ≤ a) = true := by simp; omega
      have hw : wordOk a = false := by unfold wordOk; simp; omega
      rw [show d.word a = 0 from by unfold Dat.word; rw [if_neg (by rw [hw]; simp)], show wordErr a = 41 from by unfold wordErr; rw [if_neg (by rw [hw]; simp)]] at HW
      clear h4 hw hd HP
      obtain ⟨nr, arch, ip, b0, b1, b2, b3, b4, b5⟩ := d
      go_enter Try.func10, Try.ntmps10
      go_wp2_with fail
      refine (HA.out _).mono ?_
      rintro e w0 ⟨rfl, hx0⟩
      have B := (Blk.new W _ _).ext hx0
      have hx := ((Ext.refl W).alloc _).trans hx0
      clear hx0
      go_wp2_with (refine wpList_load_blk rfl 45 (.tmp _) rfl _ _ _ _ rfl B Try.underlying45 rfl (by kernel_rfl) ?_)
      refine (HW.out _).mono ?_
      rintro e w1 ⟨rfl, hx1⟩
      go_wp2
      go_ret
      exact ⟨rfl, hx.trans hx1⟩
  · have d1 : (a % 4 != 0) = true := by simp; exact h4
    have hw : wordOk a = false := by unfold wordOk; simp; omega
    rw [show d.word a = 0 from by unfold Dat.word; rw [if_neg (by rw [hw]; simp)], show wordErr a = 41 from by unfold wordErr; rw [if_neg (by rw [hw]; simp)]] at HW
    clear h4 hw hd HP
    obtain ⟨nr, arch, ip, b0, b1, b2, b3, b4, b5⟩ := d
    go_enter Try.func10, Try.ntmps10
    go_wp2_with fail
    refine (HA.out _).mono ?_
    rintro e w0 ⟨rfl, hx0⟩
    have B := (Blk.new W _ _).ext hx0
    have hx := ((Ext.refl W).alloc _).trans hx0
    clear hx0
    go_wp2_with (refine wpList_load_blk rfl 45 (.tmp _) rfl _ _ _ _ rfl B Try.underlying45 rfl (by kernel_rfl) ?_)
    refine (HW.out _).mono ?_
    rintro e w1 ⟨rfl, hx1⟩
    go_wp2
    go_ret
    exact ⟨rfl, hx.trans hx1⟩
end Go.Proofs.Ytlicndonhmcmmaa
