/- The arguments of the laws, opened: what the reading of an argument as data says of the cells. -/
import Derived.Test.YtlicndonhmcmmaaWordsB
import Derived.ProofKit
import Derived.OpenShut
import Derived.ShutString
import Derived.ChangeOld
import Derived.Lib.SmallJoins
namespace Go.Proofs.Ytlicndonhmcmmaa
open Go.ChangeShapes Go.WideShapes Go.ChangeAt Go.RowKit
open Go.ChangeMaps (open_string shut_string)
set_option linter.unusedVariables false

theorem own_knob : ownKnob Try.prog.godebug = none := by kernel_rfl
theorem laid_out : laidOutB Try.prog = true := by kernel_rfl

section
variable {H : Type} {enc : TypeId × Value → H} {W : World}

theorem wf_u8 {x : Int} (h : (Lit.int .u8 x).wf = true) : 0 ≤ x ∧ x < 256 := by
  have := bounds_u8 h
  omega
theorem wf_u16 {x : Int} (h : (Lit.int .u16 x).wf = true) : 0 ≤ x ∧ x < 65536 := by
  have := bounds_u16 h
  omega
theorem wf_u32 {x : Int} (h : (Lit.int .u32 x).wf = true) : 0 ≤ x ∧ x < 4294967296 := by
  have := bounds_u32 h
  omega
theorem wf_u64 {x : Int} (h : (Lit.int .u64 x).wf = true) : 0 ≤ x ∧ x < 256 ^ 8 := by
  have := bounds_u64 h
  omega

set_option maxRecDepth 100000 in
theorem open_bytes {base : Nat} {v : Value} {d : DataW H} {p : List MemPlace} (hv : Value.okWide Try.prog W .any base 23 v) (h : DataW.Trod enc Try.prog W 0 (fun _ => true) true 23 v d p) :
    ∃ (A : Option Addr) (n c : Nat) (xs : List Int), v = .slice A n c ∧ xs.length = n ∧ (n ≤ c ∧ c ≤ maxLen) ∧ Byt xs ∧ InM W A (nums .u8 xs) := by
  obtain ⟨a0, len, cap, rfl⟩ := okWide_slice Try.underlying23 hv
  obtain ⟨fuel, hf⟩ := h
  rcases open_ints Try.underlying23 Try.underlying5 (by kernel_rfl) hf with ⟨hcs, _⟩ | ⟨x, l, c, zs, hcs, _, hl, hm, hz, _, hcell, hwz⟩
  · simp [Value.cells] at hcs
    obtain ⟨rfl, rfl, rfl⟩ := hcs
    exact ⟨none, 0, 0, [], rfl, rfl, ⟨Nat.le_refl _, Nat.zero_le _⟩, fun x hx => by simp at hx, InM.nil _ _⟩
  · simp [Value.cells] at hcs
    obtain ⟨rfl, rfl, rfl⟩ := hcs
    have hzl : zs.length = cap := by simpa using hz
    refine ⟨some x, len, cap, zs.take len, rfl, by rw [List.length_take]; omega, ⟨hl, hm⟩, fun y hy => wf_u8 (hwz y (List.mem_of_mem_take hy)), fun j u hu => ?_⟩
    have hj : j < (nums .u8 (zs.take len)).length := (List.getElem?_eq_some_iff.1 hu).1
    have hj2 : j < zs.length := by
      rw [List.length_map, List.length_take] at hj
      omega
    have hc := hcell j hj2
    have hu2 : u = .int .u8 (zs.getD j 0) := by
      have h2 : (nums .u8 (zs.take len))[j]? = some (.int .u8 (zs.getD j 0)) := by
        rw [List.length_map, List.length_take] at hj
        rw [List.getElem?_map, List.getElem?_take_of_lt (by omega), List.getElem?_eq_getElem hj2, List.getD_eq_getElem?_getD, List.getElem?_eq_getElem hj2]
        rfl
      rw [h2] at hu
      exact (Option.some.inj hu).symm
    obtain ⟨b, off, spot⟩ := x
    have hspot : spot = none := by
      have h3 := World.cell?_spot (hcell 0 (by omega))
      simpa [Addr.add] using h3
    subst hspot
    rw [add_plain] at hc
    exact ⟨b, off, rfl, by rw [hc, hu2]⟩
end
end Go.Proofs.Ytlicndonhmcmmaa
