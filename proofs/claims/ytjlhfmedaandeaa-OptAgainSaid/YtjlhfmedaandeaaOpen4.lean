import Derived.Test.YtjlhfmedaandeaaWords
import Derived.Test.YtjlhfmedaandeaaSym1
import Derived.Test.YtjlhfmedaandeaaPrg
import Derived.Deep.Slices
import Derived.Deep.Fields
/- A slice of symbolic instructions as an argument. -/
namespace Go.Proofs.Ytjlhfmedaandeaa
open Go.ChangeShapes Go.WideShapes Go.ChangeAt Go.RowKit Go.Deep
set_option linter.unusedVariables false
theorem wf_i64 {x : Int} (h : (Lit.int .i64 x).wf = true) : I64 x := by
  have := h
  simp [Lit.wf, IntKind.min, IntKind.max, IntKind.signed, IntKind.bits] at this
  exact ⟨by omega, by omega⟩
section
variable {H : Type} {enc : TypeId × Value → H} {W : World}

set_option maxRecDepth 100000 in
theorem trod_sym {base fuel : Nat} {sp : Nat → Bool} {hd : Bool} {l : List Value} {x : DataW H × List MemPlace} (hl : l.length = 4) (h : DataW.trod enc Try.prog W base sp hd fuel 32 l = some x) :
    ∃ I : Sy, l = I.cells.toList ∧ I.ok := by
  match l, hl with
  | [v0, v1, v2, v3], _ =>
    obtain ⟨xs, n, _, _, _, hlen, hg⟩ := DataW.trod_struct Try.underlying32 h
    have hlen : xs.length = 4 := hlen
    obtain ⟨y0, e0⟩ := get_some (l := xs) (i := 0) (by omega)
    obtain ⟨y1, e1⟩ := get_some (l := xs) (i := 1) (by omega)
    obtain ⟨y2, e2⟩ := get_some (l := xs) (i := 2) (by omega)
    obtain ⟨y3, e3⟩ := get_some (l := xs) (i := 3) (by omega)
    have g0 := hg 0 _ rfl
    have g1 := hg 1 _ rfl
    have g2 := hg 2 _ rfl
    have g3 := hg 3 _ rfl
    rw [e0] at g0
    rw [e1] at g1
    rw [e2] at g2
    rw [e3] at g3
    obtain ⟨a, rfl, wa⟩ := trod_one (u := 0) Try.underlying29 g0
    obtain ⟨b, rfl, wb⟩ := trod_one (u := 0) Try.underlying30 g1
    obtain ⟨c, rfl, wc⟩ := trod_one (u := 0) Try.underlying3 g2
    obtain ⟨d, rfl, wd⟩ := trod_one (u := 0) Try.underlying3 g3
    exact ⟨⟨a, b, c, d⟩, rfl, wf_u16 wa, wf_u32 wb, wf_i64 wc, wf_i64 wd⟩
set_option maxRecDepth 100000 in
theorem open_syms {base : Nat} {v : Value} {d : DataW H} {p : List MemPlace} (hv : Value.okWide Try.prog W .any base 22 v) (h : DataW.Trod enc Try.prog W 0 (fun _ => true) true 22 v d p) :
    ∃ (A : Option Addr) (n c : Nat) (ps : List Sy), v = .slice A n c ∧ ps.length = n ∧ (n ≤ c ∧ c ≤ maxLen) ∧ (∀ i ∈ ps, i.ok) ∧ InM W A (sc ps) := by
  have hC : Try.prog.cellsOf 32 = 4 := by kernel_rfl
  obtain ⟨a0, len, cap, rfl⟩ := okWide_slice Try.underlying22 hv
  obtain ⟨fuel, hf⟩ := h
  rcases open_slice Try.underlying22 hf with ⟨hcs, _⟩ | ⟨a, len', cap', m, n, D, Pl, hcs, hb, hl, hm, hmm, hx, hi⟩
  · simp [Value.cells] at hcs
    obtain ⟨rfl, rfl, rfl⟩ := hcs
    exact ⟨none, 0, 0, [], rfl, rfl, ⟨Nat.le_refl _, Nat.zero_le _⟩, fun x hx => by simp at hx, InM.nil _ _⟩
  · simp [Value.cells] at hcs
    obtain ⟨rfl, rfl, rfl⟩ := hcs
    have hm2 : m = cap := by simpa using hmm
    have key : ∀ i, i < len → ∃ I : Sy, I.ok ∧ ∀ r, r < 4 → W.cell? (a.add (i * 4 + r)) = I.cells.toList[r]? := fun i hlt => by
      obtain ⟨cs', hc, ht⟩ := hi i (by omega)
      rw [hC] at hc
      obtain ⟨_, hcl, hat⟩ := World.cells?_some hc
      obtain ⟨I, e, ok⟩ := trod_sym hcl ht
      refine ⟨I, ok, fun r hr => ?_⟩
      have := hat r hr
      rw [add_add, e] at this
      exact this
    obtain ⟨f, hf2⟩ : ∃ f : Nat → Sy, ∀ i, i < len → (f i).ok ∧ ∀ r, r < 4 → W.cell? (a.add (i * 4 + r)) = (f i).cells.toList[r]? :=
      ⟨fun i => if h : i < len then Classical.choose (key i h) else zeroS, fun i h => by
        simp only [dif_pos h]
        exact Classical.choose_spec (key i h)⟩
    have hlen : ((List.range len).map f).length = len := by simp
    refine ⟨some a, len, cap, (List.range len).map f, rfl, hlen, ⟨hl, hm⟩, fun I hI => ?_, fun j u hu => ?_⟩
    · obtain ⟨i, hi, rfl⟩ := List.mem_map.1 hI
      exact (hf2 i (List.mem_range.1 hi)).1
    · have hj : j < (sc ((List.range len).map f)).length := (List.getElem?_eq_some_iff.1 hu).1
      rw [sc_length, hlen] at hj
      have hq : j / 4 < ((List.range len).map f).length := by rw [hlen]; omega
      have hu2 := sc_at ((List.range len).map f) (j / 4) (j % 4) hq (by omega)
      rw [show j / 4 * 4 + j % 4 = j from by omega, hu] at hu2
      have hc := (hf2 (j / 4) (by omega)).2 (j % 4) (by omega)
      rw [show j / 4 * 4 + j % 4 = j from by omega] at hc
      simp only [List.getElem_map, List.getElem_range] at hu2
      obtain ⟨b, off, spot⟩ := a
      have hspot : spot = none := by
        have h0 := (hf2 0 (by omega)).2 0 (by omega)
        obtain ⟨u0, hu0⟩ : ∃ u0, (f 0).cells.toList[0]? = some u0 := ⟨_, rfl⟩
        rw [hu0] at h0
        have h3 := World.cell?_spot h0
        simpa [Addr.add] using h3
      subst hspot
      rw [add_plain] at hc
      exact ⟨b, off, rfl, by rw [hc, ← hu2]⟩
end
end Go.Proofs.Ytjlhfmedaandeaa
