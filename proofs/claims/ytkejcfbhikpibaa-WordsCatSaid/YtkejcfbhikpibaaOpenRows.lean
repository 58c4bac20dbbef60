import Derived.Test.YtkejcfbhikpibaaWords
import Derived.Deep.Matrix
import Derived.SizedLaws
/- A list of lists of bytes that came in, opened. -/
namespace Go.Proofs.Ytkejcfbhikpibaa
open Go.ChangeShapes Go.WideShapes Go.ChangeAt Go.RowKit Go.Deep
set_option linter.unusedVariables false

theorem mem_weightsAll {H : Type} (P : Program) (e : TypeId) {x : Nat} : ∀ {l : List (DataW H)} {d : DataW H}, d ∈ l → x ∈ DataW.weights P e d → x ∈ DataW.weightsAll P e l
  | [], _, h, _ => by cases h
  | d0 :: r, d, hd, hx => by
    unfold DataW.weightsAll
    rcases List.mem_cons.1 hd with rfl | h
    · exact List.mem_append_left _ hx
    · exact List.mem_append_right _ (mem_weightsAll P e h hx)
section
variable {H : Type} {enc : TypeId × Value → H} {W : World}
theorem bytes_bs : Try.prog.bytesOf 23 = 24 := by kernel_rfl
theorem bytes_u8 : Try.prog.bytesOf 5 = 1 := by kernel_rfl
set_option maxRecDepth 100000 in
theorem open_rows {base : Nat} {v : Value} {d : DataW H} {p : List MemPlace} (hv : Value.okWide Try.prog W .any base 22 v) (h : DataW.Trod enc Try.prog W 0 (fun _ => true) true 22 v d p) (hs : ∀ x ∈ DataW.weights Try.prog 22 d, x ≤ reachBytes) :
    ∃ (A : Option Addr) (n c : Nat) (ls : List Sl), v = .slice A n c ∧ ls.length = n ∧ n ≤ 140737488355328 ∧ InM W A (ls.map Sl.val) ∧ (∀ s ∈ ls, s.ok W ∧ Byt s.xs ∧ s.n ≤ 140737488355328) := by
  obtain ⟨a0, len0, cap0, rfl⟩ := okWide_slice Try.underlying22 hv
  obtain ⟨fuel, hf⟩ := h
  rcases open_int_rows Try.underlying22 Try.underlying23 Try.underlying5 (by kernel_rfl) (by kernel_rfl) hf with ⟨hcs, _⟩ | ⟨a, len, cap, A, L, C, Z, hcs, _, hl, hm, hx, hr⟩
  · simp [Value.cells] at hcs
    obtain ⟨rfl, rfl, rfl⟩ := hcs
    exact ⟨none, 0, 0, [], rfl, rfl, by omega, InM.nil _ _, fun s h => by cases h⟩
  · simp [Value.cells] at hcs
    obtain ⟨rfl, rfl, rfl⟩ := hcs
    injection hx with hd hp
    subst hd
    have hw : ∀ x ∈ DataW.weights Try.prog 22 (.slice ((List.range len0).map fun r => intRow (H := H) .u8 (A r) (L r) (Z r)) ((List.range (cap0 - len0)).map fun j => intRow .u8 (A (len0 + j)) (L (len0 + j)) (Z (len0 + j)))), x ≤ reachBytes := hs
    unfold DataW.weights at hw
    simp only [Try.underlying22, List.length_map, List.length_range, bytes_bs] at hw
    have hn : (len0 + (cap0 - len0)) * 24 ≤ reachBytes := hw _ (by simp)
    have hN : len0 ≤ 140737488355328 := by unfold reachBytes at hn; omega
    have hrow : ∀ r, r < len0 → L r ≤ 140737488355328 := fun r hr0 => by
      obtain ⟨_, h1, h2, h3, _, h5, _⟩ := hr r (by omega)
      rcases hA : A r with _ | a'
      · have := h5 hA; omega
      · have hmem : intRow (H := H) .u8 (A r) (L r) (Z r) ∈ (List.range len0).map fun r => intRow (H := H) .u8 (A r) (L r) (Z r) := List.mem_map.2 ⟨r, List.mem_range.2 hr0, rfl⟩
        have hin : (Z r).length ∈ DataW.weights Try.prog 23 (intRow (H := H) .u8 (A r) (L r) (Z r)) := by
          rw [hA]
          unfold intRow DataW.weights
          simp only [Try.underlying23, bytes_u8, lits, List.length_map, List.length_take, List.length_drop]
          refine List.mem_cons.2 (.inl ?_)
          omega
        have := hw _ (List.mem_cons_of_mem _ (List.mem_append_left _ (mem_weightsAll _ _ hmem hin)))
        unfold reachBytes at this
        omega
    have spot : ∀ {b : Addr} {u : Value}, W.cell? b = some u → b.spot = none := fun h => World.cell?_spot h
    refine ⟨some a, len0, cap0, (List.range len0).map fun r => ⟨A r, L r, C r, (Z r).take (L r)⟩, rfl, by simp, hN, fun j u hu => ?_, fun s hs2 => ?_⟩
    · have hj : j < len0 := by
        have := (List.getElem?_eq_some_iff.1 hu).1
        simpa using this
      obtain ⟨h0, _⟩ := hr j (by omega)
      have hu2 : u = .slice (A j) (L j) (C j) := by
        rw [List.getElem?_map, List.getElem?_map, List.getElem?_range hj] at hu
        simpa [Sl.val] using hu.symm
      obtain ⟨b, off, sp⟩ := a
      have hsp : sp = none := by
        have h3 := spot (hr 0 (by omega)).1
        simpa [Addr.add] using h3
      subst hsp
      rw [add_plain] at h0
      exact ⟨b, off, rfl, by rw [h0, hu2]⟩
    · obtain ⟨r, hr0, rfl⟩ := List.mem_map.1 hs2
      have hr0 : r < len0 := List.mem_range.1 hr0
      obtain ⟨_, h1, h2, h3, h4, h5, h6⟩ := hr r (by omega)
      have hlen : ((Z r).take (L r)).length = L r := by rw [List.length_take]; omega
      refine ⟨⟨hlen, fun j u hu => ?_⟩, fun y hy => ?_, hrow r hr0⟩
      · have hj : j < L r := by
          have := (List.getElem?_eq_some_iff.1 hu).1
          rw [List.length_map, hlen] at this
          exact this
        rcases hA : A r with _ | a'
        · have := h5 hA; omega
        · obtain ⟨_, hc⟩ := h6 a' hA
          have h0 := hc 0 (by omega)
          have hcj := hc j (by omega)
          obtain ⟨b, off, sp⟩ := a'
          have hsp : sp = none := by
            have h3 := spot h0
            simpa [Addr.add] using h3
          subst hsp
          rw [add_plain] at hcj
          have hu2 : u = .int .u8 ((Z r).getD j 0) := by
            have h7 : (nums .u8 ((Z r).take (L r)))[j]? = some (.int .u8 ((Z r).getD j 0)) := by
              rw [List.getElem?_map, List.getElem?_take_of_lt hj, List.getElem?_eq_getElem (by omega), List.getD_eq_getElem?_getD, List.getElem?_eq_getElem (by omega)]
              rfl
            rw [h7] at hu
            exact (Option.some.inj hu).symm
          exact ⟨b, off, rfl, by rw [hcj, hu2]⟩
      · have := bounds_u8 (h4 y (List.mem_of_mem_take hy))
        exact ⟨by omega, by omega⟩
end
end Go.Proofs.Ytkejcfbhikpibaa
