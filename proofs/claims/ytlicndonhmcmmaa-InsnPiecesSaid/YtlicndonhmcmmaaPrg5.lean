import Derived.Test.YtlicndonhmcmmaaPrg4
namespace Go.Proofs.Ytlicndonhmcmmaa
open Go.RowKit Go.ChangeShapes Go.WideShapes
set_option linter.unusedVariables false
set_option linter.unusedSimpArgs false

set_option maxRecDepth 100000 in
theorem refDecode (A : Option Addr) (c : Nat) (ys : List Int) (w : World) (hn : ys.length = 8) (hB : Byt ys) (hM : InM w A (nums .u8 ys)) :
    Calls Try.prog 50 #[.slice A 8 c] w fun e w' => e = .returned (decI ys).val ∧ Ext w w' := by
  obtain ⟨b, o, rfl, hb, hc2⟩ := hM.num (k := 2) (by omega)
  have hc3 : w.cell? ⟨b, o + 3, none⟩ = some (.int .u8 (ys[3]'(by omega))) := hM.cell (nums_at (by omega))
  have e2 : ys.getD 2 0 = ys[2]'(by omega) := by rw [List.getD_eq_getElem?_getD, List.getElem?_eq_getElem (by omega)]; rfl
  have e3 : ys.getD 3 0 = ys[3]'(by omega) := by rw [List.getD_eq_getElem?_getD, List.getElem?_eq_getElem (by omega)]; rfl
  unfold decI
  rw [e2, e3]
  have hx0 := (Ext.refl w).alloc (.cells #[.int .u16 0, .int .u8 0, .int .u8 0, .int .u32 0] 73)
  have m1 := hM.ext hx0
  have G1 := Lib.hid (refGet2_ok (some ⟨b, o, none⟩) 8 c 0 ys _ hn (by decide) hB m1 (by decide))
  have G2 := Lib.hid (refGet4_ok (some ⟨b, o, none⟩) 8 c 4 ys _ hn (by decide) hB m1 (by decide))
  have d2 := fun o1 : Obj => ((Ext.refl w).alloc o1).cell hc2
  have d3 := fun o1 : Obj => ((Ext.refl w).alloc o1).cell hc3
  have B0 := Lib.hid (Blk.new w 73 #[.int .u16 0, .int .u8 0, .int .u8 0, .int .u32 0])
  have u0 := getB_bd hB 0 2
  have v0 := getB_bd hB 4 4
  have u1 : getB ys 0 2 < 65536 := by have := u0.2; omega
  have v1 : getB ys 4 4 < 4294967296 := by have := v0.2; omega
  have u0 := u0.1
  have v0 := v0.1
  clear e2 e3 hc2 hc3 m1
  have hgz : (w.alloc (.cells #[.int .u16 0, .int .u8 0, .int .u8 0, .int .u32 0] 73)).heap.size = w.heap.size + 1 := by simp
  have HX := Lib.hid hx0
  clear hx0
  generalize ys[2]'(by omega) = y2 at *
  generalize ys[3]'(by omega) = y3 at *
  generalize getB ys 0 2 = u at *
  generalize getB ys 4 4 = v at *
  have s1 : IntKind.u16.wrap u = u := wraps_u16' u u0 (by omega)
  have s2 : IntKind.u32.wrap v = v := wraps_u32' v v0 (by omega)
  go_enter Try.func50, Try.ntmps50
  go_wp2_with fail
  refine (G1.out).mono ?_
  rintro e w' ⟨rfl, rfl⟩
  go_wp2_with fail
  refine (G2.out).mono ?_
  rintro e w' ⟨rfl, rfl⟩
  go_wp2_with fail
  go_region_held3 (fun V => V.cell? ⟨b, o + 2, none⟩ = some (.int .u8 y2) ∧ V.cell? ⟨b, o + 3, none⟩ = some (.int .u8 y3)) (first | exact ⟨d2 _, d3 _⟩ | assumption) (fail)
  go_wp2
  exact bodyPost_ret (results_blk1 rfl _ _ w.heap.size 73 _ _ rfl (Blk.drew (Blk.new_ rfl)) Try.underlying73 rfl (by kernel_rfl)) rfl ⟨rfl, ((Ext.refl w).alloc _).drew⟩
end Go.Proofs.Ytlicndonhmcmmaa
