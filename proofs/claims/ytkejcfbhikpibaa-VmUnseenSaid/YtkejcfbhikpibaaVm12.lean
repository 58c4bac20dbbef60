import Derived.Test.YtkejcfbhikpibaaVm11
/- vm: Run, Trace; told. -/
namespace Go.Proofs.Ytkejcfbhikpibaa
open Go.RowKit Go.ChangeShapes Go.WideShapes
set_option linter.unusedVariables false
set_option linter.unusedSimpArgs false

theorem vmRun (A : Option Addr) (n c : Nat) (ps : List Ins) (hp : ps.length = n) (hok : ∀ i ∈ ps, i.ok) (hn : n ≤ 100000) (d : Dat) (hd : d.ok) (w : World) (hM : InM w A (pc ps)) :
    Calls Try.prog 17 #[.slice A n c, d.val] w fun e w' => e = .returned (.tuple #[.int .u32 (runR d ps).ans, .int .i64 (runR d ps).steps, .int .i64 (runR d ps).err]) ∧ Ext w w' := by
  have HM := Lib.hid hM
  have HR := Lib.hid (fun W h => run_any A n c ps hp hok hn d hd W h)
  clear hM hp hok hd hn
  generalize runR d ps = R at *
  obtain ⟨nr, arch, ip, a0, a1, a2, a3, a4, a5⟩ := d
  have hx := (Ext.refl w).alloc (.cells #[.int .u32 nr, .int .u32 arch, .int .u64 ip, .int .u64 a0, .int .u64 a1, .int .u64 a2, .int .u64 a3, .int .u64 a4, .int .u64 a5] 36)
  have hM2 := HM.out.ext hx
  dsimp only [Dat.val] at HR
  go_enter Try.func17, Try.ntmps17
  go_wp2_with fail
  refine (HR.out _ hM2).mono ?_
  rintro e w1 ⟨L, cl, rfl, hL, hx1⟩
  clear hL hM2
  replace hx := hx.trans hx1
  go_wp2_with fail
  go_ret3
  exact ⟨rfl, hx⟩
theorem vmTrace (A : Option Addr) (n c : Nat) (ps : List Ins) (hp : ps.length = n) (hok : ∀ i ∈ ps, i.ok) (hn : n ≤ 100000) (d : Dat) (hd : d.ok) (w : World) (hM : InM w A (pc ps)) :
    Calls Try.prog 20 #[.slice A n c, d.val] w fun e w' => ∃ L cl, e = .returned (.slice L (runR d ps).tr.length cl) ∧ InM w' L (nums .i64 (ints (runR d ps).tr)) ∧ Ext w w' := by
  have HM := Lib.hid hM
  have HR := Lib.hid (fun W h => run_any A n c ps hp hok hn d hd W h)
  clear hM hp hok hd hn
  generalize runR d ps = R at *
  obtain ⟨nr, arch, ip, a0, a1, a2, a3, a4, a5⟩ := d
  have hx := (Ext.refl w).alloc (.cells #[.int .u32 nr, .int .u32 arch, .int .u64 ip, .int .u64 a0, .int .u64 a1, .int .u64 a2, .int .u64 a3, .int .u64 a4, .int .u64 a5] 36)
  have hM2 := HM.out.ext hx
  dsimp only [Dat.val] at HR
  go_enter Try.func20, Try.ntmps20
  go_wp2_with fail
  refine (HR.out _ hM2).mono ?_
  rintro e w1 ⟨L, cl, rfl, hL, hx1⟩
  have HL := Lib.hid hL
  clear hL hM2
  replace hx := hx.trans hx1
  go_wp2_with fail
  go_ret
  exact ⟨L, cl, rfl, HL.out, hx⟩
end Go.Proofs.Ytkejcfbhikpibaa
