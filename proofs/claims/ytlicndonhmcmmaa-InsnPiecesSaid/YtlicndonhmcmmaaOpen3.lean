/- A slice of instructions, one instruction, as arguments. -/
import Derived.Test.YtlicndonhmcmmaaOpen
import Derived.Test.YtlicndonhmcmmaaPrg
import Derived.Test.YtlicndonhmcmmaaOpen2
import Derived.Deep.Slices
import Derived.Deep.Fields
namespace Go.Proofs.Ytlicndonhmcmmaa
open Go.ChangeShapes Go.WideShapes Go.ChangeAt Go.RowKit Go.Deep
set_option linter.unusedVariables false
section
variable {H : Type} {enc : TypeId × Value → H} {W : World}

theorem trod_one {k : IntKind} {t : TypeId} {u : TypeId} {base fuel : Nat} {sp : Nat → Bool} {hd : Bool} {v : Value} {x : DataW H × List MemPlace} (hu : Try.prog.underlying t = some (.int k)) (h : DataW.trod enc Try.prog W base sp hd fuel t [v] = some x) : ∃ n, v = .int k n ∧ (Lit.int k n).wf = true := by
  obtain ⟨n, e, _, hw⟩ := DataW.trod_int hu h
  simp only [List.cons.injEq, and_true] at e
  exact ⟨n, e, hw⟩
set_option maxRecDepth 100000 in
theorem trod_ins {base fuel : Nat} {sp : Nat → Bool} {hd : Bool} {l : List Value} {x : DataW H × List MemPlace} (hl : l.length = 4) (h : DataW.trod enc Try.prog W base sp hd fuel 73 l = some x) :
    ∃ I : Ins, l = I.cells.toList ∧ I.ok := by
  match l, hl with
  | [v0, v1, v2, v3], _ =>
    obtain ⟨xs, n, _, _, _, hlen, hg⟩ := DataW.trod_struct Try.underlying73 h
    have hlen : xs.length = 4 := hlen
    obtain ⟨y0, e0⟩ := get_some (l := xs) (i := 0) (by omega)
    obtain ⟨y1, e1⟩ := get_some (l := xs) (i := 1) (by omega)
    obtain ⟨y2, e2⟩ := get_some (l := xs) (i := 2) (by omega)
    obtain ⟨y3, e3⟩ := get_some (l := xs) (i := 3) (by omega)
    have g0 := hg 0 _ rfl
    have g1 := hg 1 _ rfl
    have g2 := hg 2 _ rfl
    have g3 := hg 3 _ rfl
    rw [e0] at g0
    rw [e1] at g1
    rw [e2] at g2
    rw [e3] at g3
    obtain ⟨a, rfl, wa⟩ := trod_one (u := 0) Try.underlying25 g0
    obtain ⟨b, rfl, wb⟩ := trod_one (u := 0) Try.underlying5 g1
    obtain ⟨c, rfl, wc⟩ := trod_one (u := 0) Try.underlying5 g2
    obtain ⟨d, rfl, wd⟩ := trod_one (u := 0) Try.underlying27 g3
    exact ⟨⟨a, b, c, d⟩, rfl, by have := wf_u16 wa; exact ⟨this.1, by have := this.2; show a < 256 ^ 2; omega⟩, wf_u8 wb, wf_u8 wc, by have := wf_u32 wd; exact ⟨this.1, by have := this.2; show d < 256 ^ 4; omega⟩⟩
set_option maxRecDepth 100000 in
theorem open_insn {base : Nat} {v : Value} {d : DataW H} {p : List MemPlace} (hv : Value.okWide Try.prog W .any base 73 v) (h : DataW.Trod enc Try.prog W 0 (fun _ => true) true 73 v d p) :
    ∃ I : Ins, v = I.val ∧ I.ok := by
  have hC : Try.prog.cellsOf 73 = 4 := by kernel_rfl
  obtain ⟨cs, rfl, hsz⟩ := okWide_struct Try.underlying73 hv
  rw [hC] at hsz
  obtain ⟨fuel, hf⟩ := h
  obtain ⟨I, e, ok⟩ := trod_ins (l := cs.toList) (by simpa using hsz) hf
  refine ⟨I, ?_, ok⟩
  unfold Ins.val
  congr 1
  exact Array.toList_inj.1 e
set_option maxRecDepth 100000 in
theorem open_insns {base : Nat} {v : Value} {d : DataW H} {p : List MemPlace} (hv : Value.okWide Try.prog W .any base 67 v) (h : DataW.Trod enc Try.prog W 0 (fun _ => true) true 67 v d p) :
    ∃ (A : Option Addr) (n c : Nat) (ps : List Ins), v = .slice A n c ∧ ps.length = n ∧ (n ≤ c ∧ c ≤ maxLen) ∧ (∀ i ∈ ps, i.ok) ∧ InM W A (pc ps) := by
  have hC : Try.prog.cellsOf 73 = 4 := by kernel_rfl
  obtain ⟨a0, len, cap, rfl⟩ := okWide_slice Try.underlying67 hv
  obtain ⟨fuel, hf⟩ := h
  rcases open_slice Try.underlying67 hf with ⟨hcs, _⟩ | ⟨a, len', cap', m, n, D, Pl, hcs, hb, hl, hm, hmm, hx, hi⟩
  · simp [Value.cells] at hcs
    obtain ⟨rfl, rfl, rfl⟩ := hcs
    exact ⟨none, 0, 0, [], rfl, rfl, ⟨Nat.le_refl _, Nat.zero_le _⟩, fun x hx => by simp at hx, InM.nil _ _⟩
  · simp [Value.cells] at hcs
    obtain ⟨rfl, rfl, rfl⟩ := hcs
    have hm2 : m = cap := by simpa using hmm
    have key : ∀ i, i < len → ∃ I : Ins, I.ok ∧ ∀ r, r < 4 → W.cell? (a.add (i * 4 + r)) = I.cells.toList[r]? := fun i hlt => by
      obtain ⟨cs', hc, ht⟩ := hi i (by omega)
      rw [hC] at hc
      obtain ⟨_, hcl, hat⟩ := World.cells?_some hc
      obtain ⟨I, e, ok⟩ := trod_ins hcl ht
      refine ⟨I, ok, fun r hr => ?_⟩
      have := hat r hr
      rw [add_add, e] at this
      exact this
    obtain ⟨f, hf2⟩ : ∃ f : Nat → Ins, ∀ i, i < len → (f i).ok ∧ ∀ r, r < 4 → W.cell? (a.add (i * 4 + r)) = (f i).cells.toList[r]? :=
      ⟨fun i => if h : i < len then Classical.choose (key i h) else zeroI, fun i h => by
        simp only [dif_pos h]
        exact Classical.choose_spec (key i h)⟩
    have hlen : ((List.range len).map f).length = len := by simp
    refine ⟨some a, len, cap, (List.range len).map f, rfl, hlen, ⟨hl, hm⟩, fun I hI => ?_, fun j u hu => ?_⟩
    · obtain ⟨i, hi, rfl⟩ := List.mem_map.1 hI
      exact (hf2 i (List.mem_range.1 hi)).1
    · have hj : j < (pc ((List.range len).map f)).length := (List.getElem?_eq_some_iff.1 hu).1
      rw [pc_length, hlen] at hj
      have hq : j / 4 < ((List.range len).map f).length := by rw [hlen]; omega
      have hu2 := pc_at ((List.range len).map f) (j / 4) (j % 4) hq (by omega)
      rw [show j / 4 * 4 + j % 4 = j from by omega, hu] at hu2
      have hc := (hf2 (j / 4) (by omega)).2 (j % 4) (by omega)
      rw [show j / 4 * 4 + j % 4 = j from by omega] at hc
      simp only [List.getElem_map, List.getElem_range] at hu2
      obtain ⟨b, off, spot⟩ := a
      have hspot : spot = none := by
        have h0 := (hf2 0 (by omega)).2 0 (by omega)
        obtain ⟨u0, hu0⟩ : ∃ u0, (f 0).cells.toList[0]? = some u0 := ⟨_, rfl⟩
        rw [hu0] at h0
        have h3 := World.cell?_spot h0
        simpa [Addr.add] using h3
      subst hspot
      rw [add_plain] at hc
      exact ⟨b, off, rfl, by rw [hc, ← hu2]⟩
end
end Go.Proofs.Ytlicndonhmcmmaa
