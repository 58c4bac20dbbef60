import Derived.Test.YtkejcfbhikpibaaVm7
/- vm: what a step does; load and number, whatever they end in. -/
namespace Go.Proofs.Ytkejcfbhikpibaa
open Go.RowKit Go.ChangeShapes Go.WideShapes
set_option linter.unusedVariables false
set_option linter.unusedSimpArgs false

theorem ent_class : ∀ e ∈ ents, (e.cls = 1 → e.code = 32 ∨ e.code = 128 ∨ e.code = 129 ∨ e.code = 0 ∨ e.code = 1 ∨ e.code = 96 ∨ e.code = 97) ∧ (e.cls = 2 → e.code = 2 ∨ e.code = 3) ∧ (e.cls = 3 → byI e.code < 10) ∧
    (e.cls = 4 → e.code = 5 ∨ (e.code ≠ 5 ∧ 10 ≤ byI e.code ∧ byI e.code < 14)) ∧ (e.cls = 5 → e.code = 6 ∨ e.code = 22) ∧ (e.cls = 6 → e.code = 7 ∨ e.code = 135) ∧ (e.cls = 1 ∨ e.cls = 2 ∨ e.cls = 3 ∨ e.cls = 4 ∨ e.cls = 5 ∨ e.cls = 6) := by
  intro e he
  simp only [ents, List.mem_cons, List.not_mem_nil, or_false] at he
  rcases he with rfl | rfl | rfl | rfl | rfl | rfl | rfl | rfl | rfl | rfl | rfl | rfl | rfl | rfl | rfl | rfl | rfl | rfl | rfl | rfl | rfl | rfl | rfl | rfl | rfl | rfl | rfl | rfl | rfl | rfl | rfl | rfl | rfl | rfl | rfl | rfl | rfl | rfl | rfl | rfl | rfl
  all_goals exact ⟨by decide +kernel, by decide +kernel, by decide +kernel, by decide +kernel, by decide +kernel, by decide +kernel, by decide +kernel⟩
theorem class_of (c : Int) : (clsOf c = 0 ∧ (byE c).2 = false) ∨ ∃ e ∈ ents, c = e.code ∧ clsOf c = e.cls ∧ (byE c).2 = true := by
  unfold clsOf
  rcases by_cases_ c with h | ⟨e, he, hc, h⟩
  · rw [h]; exact .inl ⟨rfl, rfl⟩
  · rw [h]; exact .inr ⟨e, he, hc, rfl, rfl⟩
theorem class_load {c : Int} (h : clsOf c = 1) : c = 32 ∨ c = 128 ∨ c = 129 ∨ c = 0 ∨ c = 1 ∨ c = 96 ∨ c = 97 := by
  rcases class_of c with ⟨k, _⟩ | ⟨e, he, rfl, k, _⟩
  · omega
  · exact (ent_class e he).1 (k.symm.trans h)
theorem class_store {c : Int} (h : clsOf c = 2) : c = 2 ∨ c = 3 := by
  rcases class_of c with ⟨k, _⟩ | ⟨e, he, rfl, k, _⟩
  · omega
  · exact (ent_class e he).2.1 (k.symm.trans h)
theorem class_number {c : Int} (h : clsOf c = 3) : byI c < 10 := by
  rcases class_of c with ⟨k, _⟩ | ⟨e, he, rfl, k, _⟩
  · omega
  · exact (ent_class e he).2.2.1 (k.symm.trans h)
theorem class_jump {c : Int} (h : clsOf c = 4) : c = 5 ∨ (c ≠ 5 ∧ 10 ≤ byI c ∧ byI c < 14) := by
  rcases class_of c with ⟨k, _⟩ | ⟨e, he, rfl, k, _⟩
  · omega
  · exact (ent_class e he).2.2.2.1 (k.symm.trans h)
theorem class_answer {c : Int} (h : clsOf c = 5) : c = 6 ∨ c = 22 := by
  rcases class_of c with ⟨k, _⟩ | ⟨e, he, rfl, k, _⟩
  · omega
  · exact (ent_class e he).2.2.2.2.1 (k.symm.trans h)
theorem class_move {c : Int} (h : clsOf c = 6) : c = 7 ∨ c = 135 := by
  rcases class_of c with ⟨k, _⟩ | ⟨e, he, rfl, k, _⟩
  · omega
  · exact (ent_class e he).2.2.2.2.2.1 (k.symm.trans h)
theorem class_any (c : Int) : clsOf c = 0 ∨ clsOf c = 1 ∨ clsOf c = 2 ∨ clsOf c = 3 ∨ clsOf c = 4 ∨ clsOf c = 5 ∨ clsOf c = 6 := by
  rcases class_of c with ⟨k, _⟩ | ⟨e, he, rfl, k, _⟩
  · exact .inl k
  · rw [k]; exact .inr (ent_class e he).2.2.2.2.2.2

def jumpE (i : Ins) (s : Vm) : Int := if i.code = 5 then i.k else if hoE (byI i.code - 10) s.a (secondE i s) then i.jt else i.jf
/-- What an instruction does: the machine then, how many are left out, the error. -/
def stepE (d : Dat) (i : Ins) (s : Vm) : Vm × Int × Int :=
  if clsOf i.code = 1 then ((loadE d i s).1, 0, (loadE d i s).2)
  else if clsOf i.code = 2 then (if i.k < 16 then ({ s with cs := s.cs.set i.k.toNat (if i.code = 3 then s.x else s.a) }, 0, 0) else (s, 0, 43))
  else if clsOf i.code = 3 then ((numberE i s).1, 0, (numberE i s).2)
  else if clsOf i.code = 4 then (s, jumpE i s, 0)
  else if clsOf i.code = 5 then ({ s with told := if i.code = 22 then s.a else i.k, over := true }, 0, 0)
  else if clsOf i.code = 6 then ((if i.code = 7 then { s with x := s.a } else { s with a := s.x }), 0, 0)
  else (s, 0, 40)

theorem vmp_of {f : Nat} {args : Array Value} {g : Nat} {d : Dat} {W : World} {s : Vm} {v : Value} (h : Calls Try.prog f args W fun e w' => e = .returned v ∧ Upd g W w' ∧ MB w' g d s) : Calls Try.prog f args W fun e w' => VmP g d W v (s, 0) e w' :=
  h.mono fun e w' ⟨h1, h2, h3⟩ => by subst h1; exact .yes h2 h3
theorem vmp_no {f : Nat} {args : Array Value} {g : Nat} {d : Dat} {W : World} {s : Vm} {v : Value} {x : Int} (hx : x ≠ 0) (h : Calls Try.prog f args W fun e w' => e = .panicked (pan x) ∧ Upd g W w') : Calls Try.prog f args W fun e w' => VmP g d W v (s, x) e w' :=
  h.mono fun e w' ⟨h1, h2⟩ => by subst h1; exact .no hx h2
theorem load_any (i : Ins) (hi : i.ok) (hc : clsOf i.code = 1) (g : Nat) (d : Dat) (hd : d.ok) (s : Vm) (W : World) (B : MB W g d s) : Calls Try.prog 67 #[.pointer (some ⟨g, 0, none⟩), i.val] W fun e w' => VmP g d W (.tuple #[]) (loadE d i s) e w' := by
  obtain ⟨co, jt, jf, k⟩ := i
  have hk : U32 k := hi.2.2.2
  unfold Ins.val Ins.cells
  dsimp only at *
  rcases class_load hc with rfl | rfl | rfl | rfl | rfl | rfl | rfl
  · exact load_32 jt jf k hk g d hd s W B
  · exact vmp_of (load_128 jt jf k g d s W B)
  · exact vmp_of (load_129 jt jf k g d s W B)
  · exact vmp_of (load_0 jt jf k g d s W B)
  · exact vmp_of (load_1 jt jf k g d s W B)
  · by_cases h : k < 16
    · obtain ⟨n, rfl⟩ : ∃ n : Nat, k = n := ⟨k.toNat, by have := hk.1; omega⟩
      rw [show loadE d ⟨96, jt, jf, n⟩ s = ({ s with a := s.cs.getD n 0 }, 0) from by simp [loadE, h]]
      exact vmp_of (load_96_yes jt jf n (by omega) g d s W B)
    · rw [show loadE d ⟨96, jt, jf, k⟩ s = (s, 43) from by simp [loadE, h]]
      exact vmp_no (by decide) (load_96_no jt jf k (by omega) g d s W B)
  · by_cases h : k < 16
    · obtain ⟨n, rfl⟩ : ∃ n : Nat, k = n := ⟨k.toNat, by have := hk.1; omega⟩
      rw [show loadE d ⟨97, jt, jf, n⟩ s = ({ s with x := s.cs.getD n 0 }, 0) from by simp [loadE, h]]
      exact vmp_of (load_97_yes jt jf n (by omega) g d s W B)
    · rw [show loadE d ⟨97, jt, jf, k⟩ s = (s, 43) from by simp [loadE, h]]
      exact vmp_no (by decide) (load_97_no jt jf k (by omega) g d s W B)
theorem second_u32 (i : Ins) (hi : i.ok) (s : Vm) (ho : s.ok) : U32 (secondE i s) := by
  unfold secondE
  split
  · exact ho.x
  · exact hi.2.2.2
theorem number_any (i : Ins) (hi : i.ok) (hc : clsOf i.code = 3) (g : Nat) (d : Dat) (s : Vm) (ho : s.ok) (W : World) (B : MB W g d s) : Calls Try.prog 69 #[.pointer (some ⟨g, 0, none⟩), i.val] W fun e w' => VmP g d W (.tuple #[]) (numberE i s) e w' := by
  by_cases h1 : i.code = 52 ∧ secondE i s = 0
  · rw [show numberE i s = (s, 44) from by unfold numberE; rw [if_pos h1]]
    exact vmp_no (by decide) (number_div0 i h1.1 g d s h1.2 W B)
  by_cases h2 : i.code = 60 ∧ secondE i s = 0
  · rw [show numberE i s = ({ s with over := true }, 0) from by unfold numberE; rw [if_neg h1, if_pos h2]]
    exact vmp_of (number_divx0 i h2.1 g d s h2.2 W B)
  by_cases h3 : (i.code = 100 ∨ i.code = 116) ∧ 31 < secondE i s
  · rw [show numberE i s = (s, 45) from by unfold numberE; rw [if_neg h1, if_neg h2, if_pos h3]]
    exact vmp_no (by decide) (number_shift i h3.1 g d s h3.2 W B)
  rw [show numberE i s = ({ s with a := doE (byI i.code) s.a (secondE i s) }, 0) from by unfold numberE; rw [if_neg h1, if_neg h2, if_neg h3]]
  exact vmp_of (number_op i hi g d s ho _ (class_number hc) rfl (second_u32 i hi s ho) h1 h2 h3 W B)
theorem jump_any (i : Ins) (hi : i.ok) (hc : clsOf i.code = 4) (g : Nat) (d : Dat) (s : Vm) (ho : s.ok) (W : World) (B : MB W g d s) : Calls Try.prog 70 #[.pointer (some ⟨g, 0, none⟩), i.val] W fun e w' => e = .returned (.int .i64 (jumpE i s)) ∧ Ext W w' := by
  unfold jumpE
  by_cases h : i.code = 5
  · rw [if_pos h]
    obtain ⟨co, jt, jf, k⟩ := i
    dsimp only at h
    subst h
    exact jump_ja jt jf k hi.2.2.2 g W
  · rw [if_neg h]
    rcases class_jump hc with h' | ⟨_, h1, h2⟩
    · exact absurd h' h
    · exact jump_op i hi g d s ho (byI i.code - 10) (by omega) (by omega) (second_u32 i hi s ho) h W B
end Go.Proofs.Ytkejcfbhikpibaa
