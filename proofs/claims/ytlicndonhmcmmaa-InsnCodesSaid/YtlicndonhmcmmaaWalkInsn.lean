import Derived.Test.YtlicndonhmcmmaaInsn8
namespace Go.Proofs.Ytlicndonhmcmmaa
open Go.RowKit Go.ChangeShapes Go.WideShapes
set_option linter.unusedVariables false

set_option maxHeartbeats 1000000 in
set_option maxRecDepth 100000 in
theorem insnCodes_walk (a : Int) (ha : (Lit.int .u16 a).wf = true) (t : ByteArray) (_ : t.size ≤ maxLen) (W : World) :
    Calls Try.prog 16 #[.int .u16 a, .string t] W fun e w' => e = .returned (.bool true) ∧ Ext W w' := by
  have H1 := Lib.hid (fun W : World => refOf_any a W)
  rw [show (findO fun e => e.code == a) = byO a from rfl] at H1
  have H2 := Lib.hid (fun W : World => code_any t W)
  have H3 := Lib.hid (fun W : World => refCode_any t W)
  rw [show (findO fun e => e.name.toList == t.toList) = nmO t from rfl, ← nm_same] at H3
  have H4 := Lib.hid (fun W : World => known_any a W)
  have H5 := Lib.hid (fun W : World => refKnown_any a W)
  rw [known_same] at H5
  have H6 := Lib.hid (fun W : World => of_any a W)
  have H7 := Lib.hid (fun W : World => name_any a W)
  have H8 := Lib.hid (fun W : World => withX_any a W)
  have H9 := Lib.hid (fun W : World => refWithX_any a W)
  rw [withX_same] at H8
  rw [← by_same] at H1 H8 H9
  generalize byE a = R at *
  generalize nmE t = S at *
  obtain ⟨⟨c, s, q⟩, ok⟩ := R
  obtain ⟨⟨c', s', q'⟩, ok'⟩ := S
  simp only [Ent.val, Ent.cells] at H1
  generalize owx ⟨c, s, q⟩ = x at *
  clear ha
  by_cases t1 : (100 : Int) < t.size
  · go_enter Try.func16, Try.ntmps16
    go_wp2
    go_ret
    exact ⟨rfl, Ext.refl _⟩
  · have b1 : t.size ≤ 100 := by omega
    go_enter Try.func16, Try.ntmps16
    go_wp2_with fail
    refine (H1.out _).mono ?_
    rintro e w1 ⟨rfl, hx1⟩
    go_wp2_with fail
    refine (H2.out _).mono ?_
    rintro e w2 ⟨rfl, hx2⟩
    go_wp2_with fail
    refine (H3.out _).mono ?_
    rintro e w3 ⟨rfl, hx3⟩
    go_wp2_with fail
    have B := (((Blk.new w1 89 #[.int .u16 c, .string s, .int .u8 q]).ext hx2).ext hx3).drew
    have hx := (((hx1.alloc _).trans hx2).trans hx3).drew
    have c3 : w3.drew.cell? ⟨w1.heap.size, 1, none⟩ = some (.string s) ∧ w3.drew.cell? ⟨w1.heap.size, 2, none⟩ = some (.int .u8 q) := ⟨by rw [B.cell]; rfl, by rw [B.cell]; rfl⟩
    generalize w1.heap.size = g at *
    clear B hx1 hx2
    go_region_held3 (fun V => V.cell? ⟨g, 1, none⟩ = some (.string s) ∧ V.cell? ⟨g, 2, none⟩ = some (.int .u8 q)) (first | exact c3 | exact c4 | exact c5 | exact c6 | exact c7 | exact c8 | exact c9 | assumption) (first
      | (go_at_call 59; refine (H4.out _).mono ?_; rintro e w4 ⟨rfl, hx4⟩; have c4 : w4.cell? ⟨g, 1, none⟩ = some (.string s) ∧ w4.cell? ⟨g, 2, none⟩ = some (.int .u8 q) := ⟨hx4.cell c3.1, hx4.cell c3.2⟩; replace hx := hx.trans hx4)
      | (go_at_call 60; refine (H5.out _).mono ?_; rintro e w5 ⟨rfl, hx5⟩; have c5 : w5.cell? ⟨g, 1, none⟩ = some (.string s) ∧ w5.cell? ⟨g, 2, none⟩ = some (.int .u8 q) := ⟨hx5.cell c4.1, hx5.cell c4.2⟩; replace hx := hx.trans hx5)
      | (go_at_call 61; refine (H6.out _).mono ?_; rintro e w6 ⟨rfl, hx6⟩; have c6 : w6.cell? ⟨g, 1, none⟩ = some (.string s) ∧ w6.cell? ⟨g, 2, none⟩ = some (.int .u8 q) := ⟨hx6.cell c5.1, hx6.cell c5.2⟩; replace hx := hx.trans hx6)
      | (go_at_call 62; refine (H7.out _).mono ?_; rintro e w7 ⟨rfl, hx7⟩; have c7 : w7.cell? ⟨g, 1, none⟩ = some (.string s) ∧ w7.cell? ⟨g, 2, none⟩ = some (.int .u8 q) := ⟨hx7.cell c6.1, hx7.cell c6.2⟩; replace hx := hx.trans hx7)
      | (go_at_call 63; refine (H8.out _).mono ?_; rintro e w8 ⟨rfl, hx8⟩; have c8 : w8.cell? ⟨g, 1, none⟩ = some (.string s) ∧ w8.cell? ⟨g, 2, none⟩ = some (.int .u8 q) := ⟨hx8.cell c7.1, hx8.cell c7.2⟩; replace hx := hx.trans hx8)
      | (go_at_call 64; refine (H9.out _).mono ?_; rintro e w9 ⟨rfl, hx9⟩; have c9 : w9.cell? ⟨g, 1, none⟩ = some (.string s) ∧ w9.cell? ⟨g, 2, none⟩ = some (.int .u8 q) := ⟨hx9.cell c8.1, hx9.cell c8.2⟩; replace hx := hx.trans hx9))
    go_wp2
    go_ret
    exact ⟨rfl, hx⟩
end Go.Proofs.Ytlicndonhmcmmaa
