import Derived.Test.YtkejcfbhikpibaaVm15
/- vm: the plain law of VmUnseen. -/
namespace Go.Proofs.Ytkejcfbhikpibaa
open Go.RowKit
set_option linter.unusedVariables false
set_option linter.unusedSimpArgs false

/-- Does an instruction load a half of an argument? -/
def loadsI (arg : Int) (i : Ins) : Bool := i.code == 32 && decide (0 ≤ arg) && decide (arg < 6) && i.k / 8 == 2 + arg
def loadsB (arg : Int) (ps : List Ins) : Bool := ps.any (loadsI arg)
theorem unseen (d : Dat) (ps : List Ins) (hok : ∀ i ∈ ps, i.ok) (at_ : Int) (I : Ins) (arg by_ : Int) (Q : List Ins) (d2 : Dat)
    (hQ : Q = ps ∨ (0 ≤ at_ ∧ at_ < ps.length ∧ at_ ∉ ints (runR d ps).tr ∧ Q = ps.set at_.toNat I))
    (hd : d2 = d ∨ (0 ≤ arg ∧ arg < 6 ∧ loadsB arg ps = false ∧ d2 = setArg d arg.toNat by_)) : runR d2 Q = runR d ps := by
  have hg := run_good d ps
  refine run_same d d2 ps Q (by rcases hQ with h | ⟨_, _, _, h⟩ <;> rw [h]; simp) fun k hk => ⟨?_, fun s => ?_⟩
  · rcases hQ with h | ⟨h0, h1, h2, h⟩
    · rw [h]
    · rw [h, List.getD_eq_getElem?_getD, List.getElem?_set_ne, ← List.getD_eq_getElem?_getD]
      intro e
      apply h2
      rw [ints, List.mem_map]
      exact ⟨k, hk, by rw [← e]; simp; omega⟩
  · rcases hd with h | ⟨h0, h1, h2, h⟩
    · rw [h]
    · refine step_dat d d2 _ (fun hc => ?_) s
      rw [h]
      have hkl := hg.lt k hk
      have hgk : ps.getD k zeroI = ps[k] := by rw [List.getD_eq_getElem?_getD, List.getElem?_eq_getElem hkl]; rfl
      rw [hgk] at hc ⊢
      have hl : loadsI arg ps[k] = false := by
        have := List.any_eq_false.1 h2 ps[k] (List.getElem_mem hkl)
        simpa using this
      refine word_arg d arg.toNat by_ (by omega) _ (hok _ (List.getElem_mem hkl)).2.2.2.1 fun e => ?_
      unfold loadsI at hl
      rw [hc, e] at hl
      simp [h0, h1] at hl
      omega
end Go.Proofs.Ytkejcfbhikpibaa
