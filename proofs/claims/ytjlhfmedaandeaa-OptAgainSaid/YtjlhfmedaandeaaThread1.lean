import Derived.Test.YtjlhfmedaandeaaMoved2
import Derived.Test.YtjlhfmedaandeaaLkB
import Derived.Test.YtjlhfmedaandeaaOref3
/- opt.threaded. -/
namespace Go.Proofs.Ytjlhfmedaandeaa
open Go.RowKit Go.ChangeShapes Go.WideShapes
set_option linter.unusedVariables false
set_option linter.unusedSimpArgs false

theorem wpListIn_store_row {F : Fence} {n : Nat} {P : Program} {w : World} {ops : Array Oper} {rest : List Oper} {op : Oper} {a : Act} {Q : Exit → Act → World → Prop} (hgd : op.guard = none) (ty : TypeId) (x y : Operand) (ho : op.op = .store ty x y)
    (g o : Nat) (t : TypeId) (cur : List Value) (cs : Array Value) (hx : a.eval x = .pointer (some ⟨g, o, none⟩)) (hy : a.eval y = .agg cs) (hb : Blk w g t cur.toArray) (hfit : o + cs.size ≤ cur.length)
    (hi : (P.info? ty).map (·.size) = some cs.size) (h1 : ∀ v ∈ cs.toList, v.oneCell' = true)
    (h : ∀ w', Blk w' g t (splice cur o cs.toList).toArray → w.grownBy w' (some g) → wpListIn F n P ops Q rest (a.put op.dst undef) w') : wpListIn F n P ops Q (op :: rest) a w := by
  refine wpListIn_plain hgd fun K hK => ?_
  unfold Oper.wpIn
  refine ⟨?_, ?_⟩
  · simp [Oper.about, ho, Sem.run_pure]
  · rw [Oper.semAt_plain F _ _ (by rw [ho]; intro c hc'; cases hc')]
    simp only [execOp, ho, hx, hy, Instr.storeAt, Instr.sureAddr, Sem.run_bind, Sem.run_pure, Result.andThen_ok, store_row_run w g o t ty cur cs hb hfit hi h1]
    exact hK _ _ (h _ (setRow_heap w g _ _ t _ hb) (grown_setRow w g _))
/-- A pointer to cells. -/
def VP.ptrm (xs : List Value) : VP := ⟨fun v w => ∃ A, v = .pointer A ∧ InM w A xs, fun _ _ _ ⟨A, h, k⟩ e => ⟨A, h, k.ext e⟩⟩
set_option maxRecDepth 100000 in
theorem threadC (gb g n c' : Nat) (qs : List Sy) (more : List Value) (hq : qs.length = n) (W : World) (hB : Blk W gb 22 #[.slice (some ⟨g, 0, none⟩) n c']) (hG : Blk W g 32 (sc qs ++ more).toArray) (t : Int) (ht : 0 ≤ t ∧ t < n) :
    Calls Try.prog 68 #[.int .i64 t, .pointer (some ⟨gb, 0, none⟩)] W fun e w' => e = .returned (.int .i64 (thrT qs t)) ∧ Ext W w' := by
  obtain ⟨t, rfl⟩ : ∃ x : Nat, t = x := ⟨t.toNat, by omega⟩
  have htp : t < qs.length := by omega
  have hR : thrT qs t = if qs[t].code = 5 then qs[t].th else (t : Int) := by
    unfold thrT
    rw [Int.toNat_natCast, show qs.getD t zeroS = qs[t] by simp [List.getD_eq_getElem?_getD, htp]]
  rw [hR]
  obtain ⟨c0, c1, c2, c3⟩ := blk_sym (co := qs[t].code) (kk := qs[t].k) (th := qs[t].th) (el := qs[t].el) hG htp rfl
  have b0 := hB.cell 0
  simp only [List.getElem?_toArray, List.getElem?_cons_zero] at b0
  have t0 : (0 : Int) ≤ t := by omega
  have t1 : (t : Int) < n := by omega
  generalize qs[t] = s at *
  obtain ⟨co, kk, th, el⟩ := s
  dsimp only at *
  clear hR hq htp ht hB hG
  by_cases h5 : co = 5
  · rw [if_pos h5]
    have e5 : (co == 5) = true := by simpa using h5
    clear h5
    go_enter Try.func68, Try.ntmps68
    go_wp2
    go_ret
    exact ⟨rfl, Ext.refl _⟩
  · rw [if_neg h5]
    have e5 : (co == 5) = false := by simpa using h5
    clear h5
    go_enter Try.func68, Try.ntmps68
    go_wp2
    go_ret
    exact ⟨rfl, Ext.refl _⟩
end Go.Proofs.Ytjlhfmedaandeaa
