import Derived.Test.YtlicndonhmcmmaaInsn3
namespace Go.Proofs.Ytlicndonhmcmmaa
open Go.RowKit Go.ChangeShapes Go.WideShapes
set_option linter.unusedVariables false

def byE (a : Int) : Ent × Bool := findE fun e => e.code == a
def nmE (t : ByteArray) : Ent × Bool := findE fun e => e.name.toList == t.toList

theorem known_any (a : Int) (W : World) :
    Calls Try.prog 59 #[.int .u16 a] W fun e w' => e = .returned (.bool (byE a).2) ∧ Ext W w' := by
  have H := Lib.hid (by_any a W)
  rw [show (findE fun e => e.code == a) = byE a from rfl] at H
  generalize byE a = R at *
  obtain ⟨⟨c, s, q⟩, ok⟩ := R
  simp only [Ent.val, Ent.cells] at H
  go_enter Try.func59, Try.ntmps59
  go_wp2_with fail
  refine H.out.mono ?_
  rintro e w2 ⟨rfl, hx2⟩
  go_wp2
  go_ret
  exact ⟨rfl, hx2.alloc _⟩
theorem of_any (a : Int) (W : World) :
    Calls Try.prog 61 #[.int .u16 a] W fun e w' => e = .returned (.int .u8 (byE a).1.cls) ∧ Ext W w' := by
  have H := Lib.hid (by_any a W)
  rw [show (findE fun e => e.code == a) = byE a from rfl] at H
  generalize byE a = R at *
  obtain ⟨⟨c, s, q⟩, ok⟩ := R
  simp only [Ent.val, Ent.cells] at H
  go_enter Try.func61, Try.ntmps61
  go_wp2_with fail
  refine H.out.mono ?_
  rintro e w2 ⟨rfl, hx2⟩
  go_wp2
  go_ret
  exact ⟨rfl, hx2.alloc _⟩
theorem name_any (a : Int) (W : World) :
    Calls Try.prog 62 #[.int .u16 a] W fun e w' => e = .returned (.string (byE a).1.name) ∧ Ext W w' := by
  have H := Lib.hid (by_any a W)
  rw [show (findE fun e => e.code == a) = byE a from rfl] at H
  generalize byE a = R at *
  obtain ⟨⟨c, s, q⟩, ok⟩ := R
  simp only [Ent.val, Ent.cells] at H
  go_enter Try.func62, Try.ntmps62
  go_wp2_with fail
  refine H.out.mono ?_
  rintro e w2 ⟨rfl, hx2⟩
  go_wp2
  go_ret
  exact ⟨rfl, hx2.alloc _⟩
theorem code_any (t : ByteArray) (W : World) :
    Calls Try.prog 57 #[.string t] W fun e w' => e = .returned (.tuple #[.int .u16 (nmE t).1.code, .bool (nmE t).2]) ∧ Ext W w' := by
  have H := Lib.hid (fun (g : Nat) (W : World) (hc : W.cell? ⟨g, 0, none⟩ = some (.string t)) => find_name g t W hc)
  rw [show (findE fun e => e.name.toList == t.toList) = nmE t from rfl] at H
  generalize nmE t = R at *
  obtain ⟨⟨c, s, q⟩, ok⟩ := R
  simp only [Ent.val, Ent.cells] at H
  have B1 := (Blk.new W 9 #[.string t])
  have hx0 := ((Ext.refl W).alloc (.cells #[.string t] 9))
  have hc : (W.alloc (.cells #[.string t] 9)).cell? ⟨W.heap.size, 0, none⟩ = some (.string t) := by rw [B1.cell]; rfl
  clear B1
  go_enter Try.func57, Try.ntmps57
  go_wp2_with fail
  refine (H.out W.heap.size _ hc).mono ?_
  rintro e w2 ⟨rfl, hx2⟩
  clear hc
  go_wp2
  go_ret2
  exact ⟨rfl, (hx0.trans hx2).alloc _⟩
def takesX (a : Int) : Bool := (byE a).2 && ((byE a).1.cls == 3 || (byE a).1.cls == 4) && (bits .and .u16 a 8 != 0)
theorem withX_any (a : Int) (W : World) :
    Calls Try.prog 63 #[.int .u16 a] W fun e w' => e = .returned (.bool (takesX a)) ∧ Ext W w' := by
  have H := Lib.hid (by_any a W)
  rw [show (findE fun e => e.code == a) = byE a from rfl] at H
  unfold takesX
  generalize byE a = R at *
  obtain ⟨⟨c, s, q⟩, ok⟩ := R
  simp only [Ent.val, Ent.cells] at H
  generalize hb : bits .and .u16 a 8 = b at *
  go_enter Try.func63, Try.ntmps63
  go_wp2_with fail
  refine H.out.mono ?_
  rintro e w2 ⟨rfl, hx2⟩
  cases ok
  · go_wp2
    go_ret
    exact ⟨rfl, hx2.alloc _⟩
  · cases h1 : (q == 3)
    · cases h2 : (q == 4)
      · go_wp2
        go_ret
        exact ⟨ret_bool (by rw [h1, h2]; rfl), hx2.alloc _⟩
      · go_wp2
        go_ret
        exact ⟨ret_bool (by rw [h1, h2]; rfl), hx2.alloc _⟩
    · go_wp2
      go_ret
      exact ⟨ret_bool (by rw [h1]; rfl), hx2.alloc _⟩
end Go.Proofs.Ytlicndonhmcmmaa
