import Derived.Test.YtlicndonhmcmmaaInsn7
namespace Go.Proofs.Ytlicndonhmcmmaa
open Go.RowKit Go.ChangeShapes Go.WideShapes
set_option linter.unusedVariables false

theorem agree {β : Type} [BEq β] [LawfulBEq β] (f : Ent → β) (b : β) (h1 : ∀ e ∈ ents, ones.find? (fun x => f x == f e) = some e) (h2 : ∀ e ∈ ones, e ∈ ents) : findE (fun e => f e == b) = findO (fun e => f e == b) := by
  unfold findE findO
  cases h : ents.find? (fun e => f e == b) with
  | some e =>
    have hb : f e = b := by have := List.find?_some h; simpa using this
    subst hb
    rw [h1 e (List.mem_of_find?_eq_some h)]
  | none =>
    cases h' : ones.find? (fun e => f e == b) with
    | none => rfl
    | some e' =>
      have := List.find?_some h'
      have hm := h2 e' (List.mem_of_find?_eq_some h')
      exact absurd this (List.find?_eq_none.1 h e' hm)
theorem ones_sub : ∀ e ∈ ones, e ∈ ents := by
  intro e he
  simp only [ones, List.mem_cons, List.not_mem_nil, or_false] at he
  rcases he with rfl | rfl | rfl | rfl | rfl | rfl | rfl | rfl | rfl | rfl | rfl | rfl | rfl | rfl | rfl | rfl | rfl | rfl | rfl | rfl | rfl | rfl | rfl | rfl | rfl | rfl | rfl | rfl | rfl | rfl | rfl | rfl | rfl | rfl | rfl | rfl | rfl | rfl | rfl | rfl | rfl
  · exact List.mem_of_getElem? (i := 0) (by kernel_rfl)
  · exact List.mem_of_getElem? (i := 1) (by kernel_rfl)
  · exact List.mem_of_getElem? (i := 2) (by kernel_rfl)
  · exact List.mem_of_getElem? (i := 3) (by kernel_rfl)
  · exact List.mem_of_getElem? (i := 4) (by kernel_rfl)
  · exact List.mem_of_getElem? (i := 5) (by kernel_rfl)
  · exact List.mem_of_getElem? (i := 6) (by kernel_rfl)
  · exact List.mem_of_getElem? (i := 7) (by kernel_rfl)
  · exact List.mem_of_getElem? (i := 8) (by kernel_rfl)
  · exact List.mem_of_getElem? (i := 27) (by kernel_rfl)
  · exact List.mem_of_getElem? (i := 28) (by kernel_rfl)
  · exact List.mem_of_getElem? (i := 37) (by kernel_rfl)
  · exact List.mem_of_getElem? (i := 38) (by kernel_rfl)
  · exact List.mem_of_getElem? (i := 39) (by kernel_rfl)
  · exact List.mem_of_getElem? (i := 40) (by kernel_rfl)
  · exact List.mem_of_getElem? (i := 9) (by kernel_rfl)
  · exact List.mem_of_getElem? (i := 18) (by kernel_rfl)
  · exact List.mem_of_getElem? (i := 10) (by kernel_rfl)
  · exact List.mem_of_getElem? (i := 19) (by kernel_rfl)
  · exact List.mem_of_getElem? (i := 11) (by kernel_rfl)
  · exact List.mem_of_getElem? (i := 20) (by kernel_rfl)
  · exact List.mem_of_getElem? (i := 12) (by kernel_rfl)
  · exact List.mem_of_getElem? (i := 21) (by kernel_rfl)
  · exact List.mem_of_getElem? (i := 13) (by kernel_rfl)
  · exact List.mem_of_getElem? (i := 22) (by kernel_rfl)
  · exact List.mem_of_getElem? (i := 14) (by kernel_rfl)
  · exact List.mem_of_getElem? (i := 23) (by kernel_rfl)
  · exact List.mem_of_getElem? (i := 15) (by kernel_rfl)
  · exact List.mem_of_getElem? (i := 24) (by kernel_rfl)
  · exact List.mem_of_getElem? (i := 16) (by kernel_rfl)
  · exact List.mem_of_getElem? (i := 25) (by kernel_rfl)
  · exact List.mem_of_getElem? (i := 17) (by kernel_rfl)
  · exact List.mem_of_getElem? (i := 26) (by kernel_rfl)
  · exact List.mem_of_getElem? (i := 29) (by kernel_rfl)
  · exact List.mem_of_getElem? (i := 33) (by kernel_rfl)
  · exact List.mem_of_getElem? (i := 30) (by kernel_rfl)
  · exact List.mem_of_getElem? (i := 34) (by kernel_rfl)
  · exact List.mem_of_getElem? (i := 31) (by kernel_rfl)
  · exact List.mem_of_getElem? (i := 35) (by kernel_rfl)
  · exact List.mem_of_getElem? (i := 32) (by kernel_rfl)
  · exact List.mem_of_getElem? (i := 36) (by kernel_rfl)
theorem code_key : ∀ e ∈ ents, ones.find? (fun x => x.code == e.code) = some e := by
  intro e he
  simp only [ents, List.mem_cons, List.not_mem_nil, or_false] at he
  rcases he with rfl | rfl | rfl | rfl | rfl | rfl | rfl | rfl | rfl | rfl | rfl | rfl | rfl | rfl | rfl | rfl | rfl | rfl | rfl | rfl | rfl | rfl | rfl | rfl | rfl | rfl | rfl | rfl | rfl | rfl | rfl | rfl | rfl | rfl | rfl | rfl | rfl | rfl | rfl | rfl | rfl
  all_goals kernel_rfl
theorem name_key : ∀ e ∈ ents, ones.find? (fun x => x.name.toList == e.name.toList) = some e := by
  intro e he
  simp only [ents, List.mem_cons, List.not_mem_nil, or_false] at he
  rcases he with rfl | rfl | rfl | rfl | rfl | rfl | rfl | rfl | rfl | rfl | rfl | rfl | rfl | rfl | rfl | rfl | rfl | rfl | rfl | rfl | rfl | rfl | rfl | rfl | rfl | rfl | rfl | rfl | rfl | rfl | rfl | rfl | rfl | rfl | rfl | rfl | rfl | rfl | rfl | rfl | rfl
  all_goals kernel_rfl
theorem by_same (a : Int) : byE a = byO a := agree (fun e => e.code) a code_key ones_sub
theorem nm_same (t : ByteArray) : nmE t = nmO t := agree (fun e => e.name.toList) t.toList name_key ones_sub
theorem by_cases_ (a : Int) : byE a = (noEnt, false) ∨ ∃ e ∈ ents, a = e.code ∧ byE a = (e, true) := by
  unfold byE findE
  cases h : ents.find? (fun e => e.code == a) with
  | none => exact .inl rfl
  | some e =>
    have := List.find?_some h
    exact .inr ⟨e, List.mem_of_find?_eq_some h, by simpa using (beq_iff_eq.1 this).symm, rfl⟩
theorem ent_facts : ∀ e ∈ ents, (!(e.name.toList == [])) = true ∧ (true && (e.cls == 3 || e.cls == 4) && (bits .and .u16 e.code 8 != 0)) = owx e := by
  intro e he
  simp only [ents, List.mem_cons, List.not_mem_nil, or_false] at he
  rcases he with rfl | rfl | rfl | rfl | rfl | rfl | rfl | rfl | rfl | rfl | rfl | rfl | rfl | rfl | rfl | rfl | rfl | rfl | rfl | rfl | rfl | rfl | rfl | rfl | rfl | rfl | rfl | rfl | rfl | rfl | rfl | rfl | rfl | rfl | rfl | rfl | rfl | rfl | rfl | rfl | rfl
  all_goals exact ⟨by kernel_rfl, by kernel_rfl⟩
theorem known_same (a : Int) : (!((byO a).1.name.toList == [])) = (byE a).2 := by
  rw [← by_same]
  rcases by_cases_ a with h | ⟨e, he, rfl, h⟩
  · rw [h]; kernel_rfl
  · rw [h]; exact (ent_facts e he).1
theorem withX_same (a : Int) : takesX a = owx (byO a).1 := by
  rw [← by_same]
  unfold takesX
  rcases by_cases_ a with h | ⟨e, he, rfl, h⟩
  · rw [h]; kernel_rfl
  · rw [h]; exact (ent_facts e he).2
end Go.Proofs.Ytlicndonhmcmmaa
