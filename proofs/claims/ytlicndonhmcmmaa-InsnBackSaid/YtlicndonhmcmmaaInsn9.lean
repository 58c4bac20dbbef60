import Derived.Test.YtlicndonhmcmmaaChunk2
import Derived.Test.YtlicndonhmcmmaaBase2
import Derived.Test.YtlicndonhmcmmaaWalkWords
namespace Go.Proofs.Ytlicndonhmcmmaa
open Go.RowKit Go.ChangeShapes Go.WideShapes
set_option linter.unusedVariables false

/-- An instruction. -/
structure Ins where
  code : Int
  jt : Int
  jf : Int
  k : Int
  deriving DecidableEq
def Ins.cells (i : Ins) : Array Value := #[.int .u16 i.code, .int .u8 i.jt, .int .u8 i.jf, .int .u32 i.k]
def Ins.val (i : Ins) : Value := .agg i.cells
def decI (ys : List Int) : Ins := ⟨getB ys 0 2, ys.getD 2 0, ys.getD 3 0, getB ys 4 4⟩
set_option maxRecDepth 100000 in
theorem decode_yes (A : Option Addr) (c : Nat) (ys : List Int) (w : World) (hn : ys.length = 8) (hB : Byt ys) (hM : InM w A (nums .u8 ys)) :
    Calls Try.prog 48 #[.slice A 8 c] w fun e w' => e = .returned (.tuple #[(decI ys).val, .int .i64 0]) ∧ Ext w w' := by
  obtain ⟨b, o, rfl, hb, hc2⟩ := hM.num (k := 2) (by omega)
  have hc3 : w.cell? ⟨b, o + 3, none⟩ = some (.int .u8 (ys[3]'(by omega))) := hM.cell (nums_at (by omega))
  have e2 : ys.getD 2 0 = ys[2]'(by omega) := by rw [List.getD_eq_getElem?_getD, List.getElem?_eq_getElem (by omega)]; rfl
  have e3 : ys.getD 3 0 = ys[3]'(by omega) := by rw [List.getD_eq_getElem?_getD, List.getElem?_eq_getElem (by omega)]; rfl
  unfold decI
  rw [e2, e3]
  have m1 := Lib.hid (fun o1 : Obj => hM.ext ((Ext.refl w).alloc o1))
  have G1 := Lib.hid (fun o1 : Obj => get16_ok (some ⟨b, o, none⟩) 8 c 0 ys (w.alloc o1) hn (by decide) hB (m1.out o1) (by decide))
  have G2 := Lib.hid (fun o1 : Obj => get32_ok (some ⟨b, o, none⟩) 8 c 4 ys (w.alloc o1) hn (by decide) hB (m1.out o1) (by decide))
  have d2 := fun o1 : Obj => ((Ext.refl w).alloc o1).cell hc2
  have d3 := fun o1 : Obj => ((Ext.refl w).alloc o1).cell hc3
  clear e2 e3
  generalize ys[2]'(by omega) = y2 at *
  generalize ys[3]'(by omega) = y3 at *
  generalize getB ys 0 2 = u at *
  generalize getB ys 4 4 = v at *
  go_enter Try.func48, Try.ntmps48
  go_wp2_with fail
  refine (G1.out _).mono ?_
  rintro e w' ⟨rfl, rfl⟩
  go_wp2_with fail
  refine (G2.out _).mono ?_
  rintro e w' ⟨rfl, rfl⟩
  go_wp2_with fail
  go_region_held3 (fun V => V.cell? ⟨b, o + 2, none⟩ = some (.int .u8 y2) ∧ V.cell? ⟨b, o + 3, none⟩ = some (.int .u8 y3)) (first | exact ⟨d2 _, d3 _⟩ | assumption) (fail)
  go_wp2
  exact bodyPost_ret (results_blk2 rfl _ _ w.heap.size 73 _ _ rfl (Blk.drew (Blk.new_ rfl)) Try.underlying73 rfl (by kernel_rfl)) rfl ⟨rfl, ((Ext.refl w).alloc _).drew⟩
end Go.Proofs.Ytlicndonhmcmmaa
