import Derived.Test.YtlicndonhmcmmaaInsn6
namespace Go.Proofs.Ytlicndonhmcmmaa
open Go.RowKit Go.ChangeShapes Go.WideShapes
set_option linter.unusedVariables false

def byO (a : Int) : Ent × Bool := findO fun e => e.code == a
def nmO (t : ByteArray) : Ent × Bool := findO fun e => e.name.toList == t.toList
theorem one_field (c q : Int) (s : ByteArray) (W : World) : (Instr.field 89 (.agg #[.int .u16 c, .string s, .int .u8 q]) 1).run Try.prog W = .ok (.string s) W := by kernel_rfl
set_option maxRecDepth 100000 in
theorem refKnown_any (a : Int) (W : World) :
    Calls Try.prog 60 #[.int .u16 a] W fun e w' => e = .returned (.bool (!((byO a).1.name.toList == []))) ∧ Ext W w' := by
  have H := Lib.hid (refOf_any a W)
  rw [show (findO fun e => e.code == a) = byO a from rfl] at H
  generalize byO a = R at *
  obtain ⟨⟨c, s, q⟩, ok⟩ := R
  simp only [Ent.val, Ent.cells] at H
  have hf := one_field c q s
  go_enter Try.func60, Try.ntmps60
  go_wp2_with fail
  refine H.out.mono ?_
  rintro e w2 ⟨rfl, hx2⟩
  go_wp2
  go_ret
  exact ⟨ret_bool (by simp), hx2⟩
theorem findO_mem (p : Ent → Bool) : (findO p).1 ∈ noEnt :: ones := by
  unfold findO
  cases h : ones.find? p with
  | none => exact List.mem_cons_self
  | some e => exact List.mem_cons_of_mem _ (List.mem_of_find?_eq_some h)
def owx (e : Ent) : Bool := (e.cls == 3 || e.cls == 4) && e.name.toList.getLast? == some 120
set_option maxHeartbeats 4000000 in
set_option maxRecDepth 100000 in
theorem refWithX_any (a : Int) (W : World) :
    Calls Try.prog 64 #[.int .u16 a] W fun e w' => e = .returned (.bool (owx (byO a).1)) ∧ Ext W w' := by
  have H := Lib.hid (refOf_any a W)
  rw [show (findO fun e => e.code == a) = byO a from rfl] at H
  have hm : (byO a).1 ∈ noEnt :: ones := findO_mem _
  generalize (byO a).1 = E at *
  simp only [noEnt, ones, List.mem_cons, List.not_mem_nil, or_false] at hm
  rcases hm with rfl | rfl | rfl | rfl | rfl | rfl | rfl | rfl | rfl | rfl | rfl | rfl | rfl | rfl | rfl | rfl | rfl | rfl | rfl | rfl | rfl | rfl | rfl | rfl | rfl | rfl | rfl | rfl | rfl | rfl | rfl | rfl | rfl | rfl | rfl | rfl | rfl | rfl | rfl | rfl | rfl | rfl
  all_goals
    simp only [Ent.val, Ent.cells] at H
    go_enter Try.func64, Try.ntmps64
    go_wp2_with fail
    refine H.out.mono ?_
    rintro e w2 ⟨rfl, hx2⟩
    go_wp2
    go_ret
    exact ⟨ret_bool (by kernel_rfl), hx2.alloc _⟩
end Go.Proofs.Ytlicndonhmcmmaa
