import Derived.Test.YtjlhfmedaandeaaPrg
/- copy of a whole row of elements of several cells. -/
namespace Go.Proofs.Ytjlhfmedaandeaa
open Go.RowKit Go.ChangeShapes Go.WideShapes
set_option linter.unusedVariables false
set_option linter.unusedSimpArgs false

/-- copy onto the whole of a block, elements of any number of cells. -/
theorem wpList_copy_all4 {P : Program} {w : World} {ops : Array Oper} {rest : List Oper} {o : Oper} {a : Act} {Q : Exit → Act → World → Prop} (hgd : o.guard = none) (d s : Operand) (dT sT : TypeId)
    (ho : o.op = .call { callee := .builtin .copy, args := #[d, s], argTypes := #[dT, sT] }) (elem : TypeId) (hu : P.underlying dT = some (.slice elem)) (size : Nat) (hsz : (P.info? elem).map (·.size) = some size) (hpos : 0 < size)
    (g n c : Nat) (A : Option Addr) (hd : a.eval d = .slice (some ⟨g, 0, none⟩) n n) (hs : a.eval s = .slice A n c) (cur : Array Value) (t : TypeId) (hg : Blk w g t cur) (cs : List Value) (hl : cs.length = n * size) (hcur : cur.size = n * size)
    (hM : InM w A cs) (h1 : ∀ v ∈ cs, v.oneCell' = true) (h : ∀ w', Blk w' g t cs.toArray → w.grownBy w' (some g) → wpList P ops Q rest (a.put o.dst (goInt n)) w') : wpList P ops Q (o :: rest) a w := by
  have key : ∃ w', (Builtin.copy_ #[dT, sT] o.type #[.slice (some ⟨g, 0, none⟩) n n, .slice A n c]).run P w = .ok (goInt n) w' ∧ Blk w' g t cs.toArray ∧ w.grownBy w' (some g) := by
    cases hq : P.info? elem with
    | none => simp [hq] at hsz
    | some i =>
      have hi : i.size = size := by simpa [hq] using hsz
      rcases A with _ | ad
      · have hn : cs = [] := by
          rcases cs with _ | ⟨u, r⟩
          · rfl
          · obtain ⟨b, off, hB, _⟩ := hM 0 u rfl
            cases hB
        subst hn
        have hn0 : n = 0 := by
          rcases Nat.eq_zero_or_pos n with h0 | h0
          · exact h0
          · have := Nat.mul_pos h0 hpos
            simp only [List.length_nil] at hl
            omega
        subst hn0
        refine ⟨w, ?_, ?_, World.grownBy.refl w _⟩
        · simp [Builtin.copy_, run_underlying hu, Builtin.lenOf, Builtin.firstCells, sizeOf, typeInfo, hq, storeCells]
        · have : cur = #[] := Array.eq_empty_of_size_eq_zero (by simpa using hcur)
          rw [this] at hg
          exact hg
      · have hst := run_storeCells_at P g 0 t cs 0 cur w hg (by simp; omega) h1
        have hld := run_firstCells_some (P := P) (w := w) size n ad n c cs hl (fun j v hv => hM.add hv)
        refine ⟨w.setRow g cs.toArray, ?_, setRow_heap w g cur _ t (0, 0) hg, grown_setRow w g _⟩
        have e : (List.drop cs.length cur.toList) = [] := List.drop_eq_nil_of_le (by simp; omega)
        simp only [Nat.add_zero, Nat.zero_add, List.take_zero, List.nil_append, e, List.append_nil] at hst
        simp [Builtin.copy_, run_underlying hu, Builtin.lenOf, sizeOf, typeInfo, hq, hi, hld, hst]
  obtain ⟨w', hr, hb, hgr⟩ := key
  refine wpList_plain hgd fun K hK => ?_
  unfold Oper.wp execOp
  simp only [ho, resolve, invoke, builtin, Sem.run_bind, Sem.run_pure, Result.andThen_ok, List.map_toArray, List.map_cons, List.map_nil, hd, hs, hr]
  exact hK _ _ (h w' hb hgr)
theorem size_ins4 : (Try.prog.info? 43).map (·.size) = some 4 := by kernel_rfl
end Go.Proofs.Ytjlhfmedaandeaa
