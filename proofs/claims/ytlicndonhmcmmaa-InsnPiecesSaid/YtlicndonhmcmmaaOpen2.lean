import Derived.Test.YtlicndonhmcmmaaOpen
import Derived.Test.YtlicndonhmcmmaaData
namespace Go.Proofs.Ytlicndonhmcmmaa
open Go.ChangeShapes Go.WideShapes Go.ChangeAt Go.RowKit
set_option linter.unusedVariables false
section
variable {H : Type} {enc : TypeId × Value → H} {W : World}

theorem trod_u32 {base fuel : Nat} {sp : Nat → Bool} {hd : Bool} {v : Value} {x : DataW H × List MemPlace} (h : DataW.trod enc Try.prog W base sp hd fuel 27 [v] = some x) : ∃ n, v = .int .u32 n ∧ U32 n := by
  obtain ⟨n, e, _, hw⟩ := DataW.trod_int Try.underlying27 h
  simp only [List.cons.injEq, and_true] at e
  exact ⟨n, e, wf_u32 hw⟩
theorem trod_u64 {base fuel : Nat} {sp : Nat → Bool} {hd : Bool} {v : Value} {x : DataW H × List MemPlace} (h : DataW.trod enc Try.prog W base sp hd fuel 22 [v] = some x) : ∃ n, v = .int .u64 n ∧ U64 n := by
  obtain ⟨n, e, _, hw⟩ := DataW.trod_int Try.underlying22 h
  simp only [List.cons.injEq, and_true] at e
  exact ⟨n, e, wf_u64 hw⟩

theorem get_some {α : Type} {l : List α} {i : Nat} (h : i < l.length) : ∃ x, l[i]? = some x := ⟨l[i], List.getElem?_eq_getElem h⟩

set_option maxRecDepth 100000 in
theorem open_data {base : Nat} {v : Value} {d : DataW H} {p : List MemPlace} (hv : Value.okWide Try.prog W .any base 45 v) (h : DataW.Trod enc Try.prog W 0 (fun _ => true) true 45 v d p) :
    ∃ D : Dat, v = D.val ∧ D.ok := by
  have hC : Try.prog.cellsOf 45 = 9 := by kernel_rfl
  have hC64 : Try.prog.cellsOf 22 = 1 := by kernel_rfl
  have hA : Try.prog.underlying 43 = some (.array 6 22) := by kernel_rfl
  obtain ⟨cs, rfl, hsz⟩ := okWide_struct Try.underlying45 hv
  rw [hC] at hsz
  obtain ⟨l⟩ := cs
  match l, hsz with
  | [v0, v1, v2, v3, v4, v5, v6, v7, v8], _ =>
    obtain ⟨fuel, hf⟩ := h
    obtain ⟨xs, n, _, _, _, hlen, hg⟩ := DataW.trod_struct Try.underlying45 hf
    have hlen : xs.length = 4 := hlen
    obtain ⟨y0, e0⟩ := get_some (l := xs) (i := 0) (by omega)
    obtain ⟨y1, e1⟩ := get_some (l := xs) (i := 1) (by omega)
    obtain ⟨y2, e2⟩ := get_some (l := xs) (i := 2) (by omega)
    obtain ⟨y3, e3⟩ := get_some (l := xs) (i := 3) (by omega)
    have g0 := hg 0 _ rfl
    have g1 := hg 1 _ rfl
    have g2 := hg 2 _ rfl
    have g3 := hg 3 _ rfl
    simp only [Value.cells] at g0 g1 g2 g3
    rw [e0] at g0
    rw [e1] at g1
    rw [e2] at g2
    rw [e3] at g3
    obtain ⟨nr, rfl, u0⟩ := trod_u32 g0
    obtain ⟨arch, rfl, u1⟩ := trod_u32 g1
    obtain ⟨ip, rfl, u2⟩ := trod_u64 g2
    obtain ⟨zs, m, _, _, _, hzl, hz⟩ := DataW.trod_array hA g3
    obtain ⟨z0, k0⟩ := get_some (l := zs) (i := 0) (by omega)
    obtain ⟨z1, k1⟩ := get_some (l := zs) (i := 1) (by omega)
    obtain ⟨z2, k2⟩ := get_some (l := zs) (i := 2) (by omega)
    obtain ⟨z3, k3⟩ := get_some (l := zs) (i := 3) (by omega)
    obtain ⟨z4, k4⟩ := get_some (l := zs) (i := 4) (by omega)
    obtain ⟨z5, k5⟩ := get_some (l := zs) (i := 5) (by omega)
    have w0 := hz 0 (by omega)
    have w1 := hz 1 (by omega)
    have w2 := hz 2 (by omega)
    have w3 := hz 3 (by omega)
    have w4 := hz 4 (by omega)
    have w5 := hz 5 (by omega)
    simp only [hC64, List.drop, Nat.mul_one] at w0 w1 w2 w3 w4 w5
    rw [k0] at w0
    rw [k1] at w1
    rw [k2] at w2
    rw [k3] at w3
    rw [k4] at w4
    rw [k5] at w5
    obtain ⟨a0, rfl, u3⟩ := trod_u64 w0
    obtain ⟨a1, rfl, u4⟩ := trod_u64 w1
    obtain ⟨a2, rfl, u5⟩ := trod_u64 w2
    obtain ⟨a3, rfl, u6⟩ := trod_u64 w3
    obtain ⟨a4, rfl, u7⟩ := trod_u64 w4
    obtain ⟨a5, rfl, u8⟩ := trod_u64 w5
    exact ⟨⟨nr, arch, ip, a0, a1, a2, a3, a4, a5⟩, rfl, ⟨u0, u1, u2, u3, u4, u5, u6, u7, u8⟩⟩
end
end Go.Proofs.Ytlicndonhmcmmaa
