import Derived.Test.YtlicndonhmcmmaaData2
namespace Go.Proofs.Ytlicndonhmcmmaa
open Go.RowKit Go.ChangeShapes Go.WideShapes
set_option linter.unusedVariables false

/-- What Parse tells of 64 bytes. -/
def parseD (bs : List Int) : Dat := ⟨getB bs 0 4, getB bs 4 4, getB bs 8 8, getB bs 16 8, getB bs 24 8, getB bs 32 8, getB bs 40 8, getB bs 48 8, getB bs 56 8⟩
def zeroD : Dat := ⟨0, 0, 0, 0, 0, 0, 0, 0, 0⟩
theorem parseD_ok {bs : List Int} (h : Byt bs) : (parseD bs).ok := by
  have k4 : ∀ a, U32 (getB bs a 4) := fun a => ⟨(getB_bd h a 4).1, by have := (getB_bd h a 4).2; omega⟩
  have k8 : ∀ a, U64 (getB bs a 8) := fun a => getB_bd h a 8
  exact ⟨k4 _, k4 _, k8 _, k8 _, k8 _, k8 _, k8 _, k8 _, k8 _⟩

theorem parse_no (A : Option Addr) (n c : Nat) (w : World) (h : ¬ n = 64) (hb : n ≤ 1000000) :
    Calls Try.prog 37 #[.slice A n c] w fun e w' => e = .returned (.tuple #[zeroD.val, .int .i64 30]) ∧ Ext w w' := by
  have d1 : ((n : Int) != 64) = true := by simp; omega
  go_enter Try.func37, Try.ntmps37
  go_wp2
  refine bodyPost_ret (results_blk2 rfl _ _ w.heap.size 45 _ _ rfl (Blk.new_ rfl) Try.underlying45 rfl (by kernel_rfl)) rfl ⟨rfl, (Ext.refl w).alloc _⟩
set_option maxHeartbeats 1000000 in
theorem parse_yes (A : Option Addr) (c : Nat) (bs : List Int) (w : World) (hn : bs.length = 64) (hB : Byt bs) (hM : InM w A (nums .u8 bs)) :
    Calls Try.prog 37 #[.slice A 64 c] w fun e w' => e = .returned (.tuple #[(parseD bs).val, .int .i64 0]) ∧ Ext w w' := by
  have m1 : ∀ o1, InM (w.alloc o1) A (nums .u8 bs) := fun o1 => hM.ext ((Ext.refl w).alloc _)
  have m2 : ∀ o1 o2, InM ((w.alloc o1).alloc o2) A (nums .u8 bs) := fun o1 o2 => hM.ext (((Ext.refl w).alloc _).alloc _)
  have M1 := Lib.hid m1; have M2 := Lib.hid m2; clear m1 m2
  have Hn := Lib.hid hn; clear hn
  have gb : ∀ a k, 0 ≤ getB bs a k ∧ getB bs a k < 256 ^ k := fun a k => getB_bd hB a k
  have g0 := gb 0 4
  have g4 := gb 4 4
  rw [show (256 : Int) ^ 4 = 4294967296 from by decide] at g0 g4
  clear gb
  go_enter Try.func37, Try.ntmps37
  go_wp2_with fail
  refine (get32_ok A 64 c 0 bs _ Hn.out (by omega) hB (M2.out _ _) (by omega)).mono ?_
  rintro e w' ⟨rfl, rfl⟩
  go_wp2_with fail
  refine (get32_ok A 64 c 4 bs _ Hn.out (by omega) hB (M2.out _ _) (by omega)).mono ?_
  rintro e w' ⟨rfl, rfl⟩
  go_wp2_with fail
  refine (get64_ok A 64 c 8 bs _ Hn.out (by omega) hB (M2.out _ _) (by omega)).mono ?_
  rintro e w' ⟨rfl, rfl⟩
  go_wp2_with fail
  refine wp_loop_rounds 7 ?_
  rw [rounds_succ]
  go_wp2_with fail
  refine (get64_ok A 64 c 16 bs _ Hn.out (by omega) hB (M2.out _ _) (by omega)).mono ?_
  rintro e w' ⟨rfl, rfl⟩
  go_wp2_with fail
  rw [rounds_succ]
  go_wp2_with fail
  refine (get64_ok A 64 c 24 bs _ Hn.out (by omega) hB (M2.out _ _) (by omega)).mono ?_
  rintro e w' ⟨rfl, rfl⟩
  go_wp2_with fail
  rw [rounds_succ]
  go_wp2_with fail
  refine (get64_ok A 64 c 32 bs _ Hn.out (by omega) hB (M2.out _ _) (by omega)).mono ?_
  rintro e w' ⟨rfl, rfl⟩
  go_wp2_with fail
  rw [rounds_succ]
  go_wp2_with fail
  refine (get64_ok A 64 c 40 bs _ Hn.out (by omega) hB (M2.out _ _) (by omega)).mono ?_
  rintro e w' ⟨rfl, rfl⟩
  go_wp2_with fail
  rw [rounds_succ]
  go_wp2_with fail
  refine (get64_ok A 64 c 48 bs _ Hn.out (by omega) hB (M2.out _ _) (by omega)).mono ?_
  rintro e w' ⟨rfl, rfl⟩
  go_wp2_with fail
  rw [rounds_succ]
  go_wp2_with fail
  refine (get64_ok A 64 c 56 bs _ Hn.out (by omega) hB (M2.out _ _) (by omega)).mono ?_
  rintro e w' ⟨rfl, rfl⟩
  go_wp2_with fail
  rw [rounds_succ]
  go_wp2
  refine bodyPost_ret (results_blk2 rfl _ _ w.heap.size 45 _ _ rfl (Blk.alloc (Blk.new_ rfl) _) Try.underlying45 rfl (by kernel_rfl)) rfl ⟨rfl, ((Ext.refl w).alloc _).alloc _⟩
theorem refParse_no (A : Option Addr) (n c : Nat) (w : World) (h : ¬ n = 64) (hb : n ≤ 1000000) :
    Calls Try.prog 38 #[.slice A n c] w fun e w' => e = .returned (.tuple #[zeroD.val, .int .i64 30]) ∧ Ext w w' := by
  have d1 : ((n : Int) != 64) = true := by simp; omega
  go_enter Try.func38, Try.ntmps38
  go_wp2
  refine bodyPost_ret (results_blk2 rfl _ _ w.heap.size 45 _ _ rfl (Blk.new_ rfl) Try.underlying45 rfl (by kernel_rfl)) rfl ⟨rfl, (Ext.refl w).alloc _⟩
set_option maxHeartbeats 1000000 in
theorem refParse_yes (A : Option Addr) (c : Nat) (bs : List Int) (w : World) (hn : bs.length = 64) (hB : Byt bs) (hM : InM w A (nums .u8 bs)) :
    Calls Try.prog 38 #[.slice A 64 c] w fun e w' => e = .returned (.tuple #[(parseD bs).val, .int .i64 0]) ∧ Ext w w' := by
  have m1 : ∀ o1, InM (w.alloc o1) A (nums .u8 bs) := fun o1 => hM.ext ((Ext.refl w).alloc _)
  have m2 : ∀ o1 o2, InM ((w.alloc o1).alloc o2) A (nums .u8 bs) := fun o1 o2 => hM.ext (((Ext.refl w).alloc _).alloc _)
  have M1 := Lib.hid m1; have M2 := Lib.hid m2; clear m1 m2
  have Hn := Lib.hid hn; clear hn
  have gb : ∀ a k, 0 ≤ getB bs a k ∧ getB bs a k < 256 ^ k := fun a k => getB_bd hB a k
  have g0 := gb 0 4
  have g4 := gb 4 4
  rw [show (256 : Int) ^ 4 = 4294967296 from by decide] at g0 g4
  clear gb
  go_enter Try.func38, Try.ntmps38
  go_wp2_with fail
  refine (refGet4_ok A 64 c 0 bs _ Hn.out (by omega) hB (M1.out _) (by omega)).mono ?_
  rintro e w' ⟨rfl, rfl⟩
  go_wp2_with fail
  refine (refGet4_ok A 64 c 4 bs _ Hn.out (by omega) hB (M1.out _) (by omega)).mono ?_
  rintro e w' ⟨rfl, rfl⟩
  go_wp2_with fail
  refine (refGet8_ok A 64 c 8 bs _ Hn.out (by omega) hB (M2.out _ _) (by omega)).mono ?_
  rintro e w' ⟨rfl, rfl⟩
  go_wp2_with fail
  refine wp_loop_rounds 7 ?_
  rw [rounds_succ]
  go_wp2_with fail
  refine (refGet8_ok A 64 c 16 bs _ Hn.out (by omega) hB (M2.out _ _) (by omega)).mono ?_
  rintro e w' ⟨rfl, rfl⟩
  go_wp2_with fail
  rw [rounds_succ]
  go_wp2_with fail
  refine (refGet8_ok A 64 c 24 bs _ Hn.out (by omega) hB (M2.out _ _) (by omega)).mono ?_
  rintro e w' ⟨rfl, rfl⟩
  go_wp2_with fail
  rw [rounds_succ]
  go_wp2_with fail
  refine (refGet8_ok A 64 c 32 bs _ Hn.out (by omega) hB (M2.out _ _) (by omega)).mono ?_
  rintro e w' ⟨rfl, rfl⟩
  go_wp2_with fail
  rw [rounds_succ]
  go_wp2_with fail
  refine (refGet8_ok A 64 c 40 bs _ Hn.out (by omega) hB (M2.out _ _) (by omega)).mono ?_
  rintro e w' ⟨rfl, rfl⟩
  go_wp2_with fail
  rw [rounds_succ]
  go_wp2_with fail
  refine (refGet8_ok A 64 c 48 bs _ Hn.out (by omega) hB (M2.out _ _) (by omega)).mono ?_
  rintro e w' ⟨rfl, rfl⟩
  go_wp2_with fail
  rw [rounds_succ]
  go_wp2_with fail
  refine (refGet8_ok A 64 c 56 bs _ Hn.out (by omega) hB (M2.out _ _) (by omega)).mono ?_
  rintro e w' ⟨rfl, rfl⟩
  go_wp2_with fail
  rw [rounds_succ]
  go_wp2
  refine bodyPost_ret (results_blk2 rfl _ _ w.heap.size 45 _ _ rfl (Blk.alloc (Blk.new_ rfl) _) Try.underlying45 rfl (by kernel_rfl)) rfl ⟨rfl, ((Ext.refl w).alloc _).alloc _⟩
end Go.Proofs.Ytlicndonhmcmmaa
