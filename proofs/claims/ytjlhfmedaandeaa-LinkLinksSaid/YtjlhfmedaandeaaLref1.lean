import Derived.Test.YtjlhfmedaandeaaCode2
/- vestibuleref27: asks, distance. -/
namespace Go.Proofs.Ytjlhfmedaandeaa
open Go.RowKit Go.ChangeShapes Go.WideShapes
set_option linter.unusedVariables false
set_option linter.unusedSimpArgs false

set_option maxRecDepth 100000 in
theorem refAsks27 (s : Sy) (W : World) : Calls Try.prog 47 #[s.val] W fun e w' => e = .returned (.bool (asksC s.code)) ∧ Ext W w' := by
  obtain ⟨co, k, th, el⟩ := s
  unfold Sy.val Sy.cells
  dsimp only
  have hx := (Ext.refl W).alloc (.cells #[.int .u16 co, .int .u32 k, .int .i64 th, .int .i64 el] 32)
  have bs := Blk.new W 32 #[.int .u16 co, .int .u32 k, .int .i64 th, .int .i64 el]
  obtain ⟨R, hR⟩ : ∃ R, asksC co = R := ⟨_, rfl⟩
  rw [hR]
  have HR := Lib.hid hR
  clear hR
  rcases h1 : (co == 21) with _ | _
  · rcases h2 : (co == 37) with _ | _
    · rcases h3 : (co == 53) with _ | _
      · rcases h4 : (co == 69) with _ | _
        all_goals
          go_enter Try.func47, Try.ntmps47
          go_wp2
          go_ret
          exact ⟨by rw [← HR.out]; unfold asksC; rw [h1, h2, h3, h4]; rfl, hx⟩
      · go_enter Try.func47, Try.ntmps47
        go_wp2
        go_ret
        exact ⟨by rw [← HR.out]; unfold asksC; rw [h1, h2, h3]; rfl, hx⟩
    · go_enter Try.func47, Try.ntmps47
      go_wp2
      go_ret
      exact ⟨by rw [← HR.out]; unfold asksC; rw [h1, h2]; rfl, hx⟩
  · go_enter Try.func47, Try.ntmps47
    go_wp2
    go_ret
    exact ⟨by rw [← HR.out]; unfold asksC; rw [h1]; rfl, hx⟩
/-- How many instructions stand from a place to another one. -/
def dsum (sz : List Int) (lo : Nat) : Nat → Int
  | 0 => 0
  | k + 1 => dsum sz lo k + sz.getD (lo + k) 0
theorem dsum_bd (sz : List Int) (hz : ∀ x ∈ sz, 0 ≤ x ∧ x ≤ 3) (lo : Nat) : ∀ k, 0 ≤ dsum sz lo k ∧ dsum sz lo k ≤ 3 * k
  | 0 => by simp [dsum]
  | k + 1 => by
    have ih := dsum_bd sz hz lo k
    unfold dsum
    have : 0 ≤ sz.getD (lo + k) 0 ∧ sz.getD (lo + k) 0 ≤ 3 := by
      rw [List.getD_eq_getElem?_getD]
      by_cases h : lo + k < sz.length
      · rw [List.getElem?_eq_getElem h]
        exact hz _ (List.getElem_mem h)
      · rw [List.getElem?_eq_none (by omega)]
        simp
    omega
set_option maxRecDepth 100000 in
theorem refDist (A : Option Addr) (n c : Nat) (sz : List Int) (hs : sz.length = n) (hn : n ≤ 131072) (hz : ∀ x ∈ sz, 0 ≤ x ∧ x ≤ 3) (lo b : Nat) (hb : b ≤ n) (hlo : lo ≤ 200000) (W : World) (hM : InM W A (nums .i64 sz)) :
    Calls Try.prog 46 #[.slice A n c, .int .i64 ((lo : Int) - 1), .int .i64 b] W fun e w' => e = .returned (.int .i64 (dsum sz lo (b - lo))) ∧ Ext W w' := by
  have HS := Lib.hid hs
  have HZ := Lib.hid (fun k => dsum_bd sz hz lo k)
  have w1 : IntKind.i64.wrap ((lo : Int) - 1 + 1) = lo := by rw [show (lo : Int) - 1 + 1 = lo by omega]; exact IntWalk.i64_in _ (by omega)
  clear hs hz
  go_enter Try.func46, Try.ntmps46
  go_wp2_with fail
  go_loopw [7, 8] (fun s it W' => ∃ k i : Nat, i = lo + k ∧ (i ≤ b ∨ k = 0) ∧ s = .int .i64 (dsum sz lo k) ∧ it = .int .i64 i ∧ Ext W W') (fun _ it _ => b - (intOf it).toNat)
  case atStart => exact ⟨0, lo, rfl, .inr rfl, rfl, rfl, Ext.refl _⟩
  case round =>
    obtain ⟨k, i, hi, hk, rfl, rfl, hy⟩ := hrel
    have HI := Lib.hid hi
    by_cases hlt : i < b
    · have hip : i < sz.length := by rw [HS.out]; omega
      obtain ⟨b1, o1, rfl, _, h1⟩ := (hM.ext hy).num hip
      have hd := HZ.out k
      have hd1 := HZ.out (k + 1)
      have hst : dsum sz lo (k + 1) = dsum sz lo k + sz[i] := by
        show dsum sz lo k + sz.getD (lo + k) 0 = _
        rw [← HI.out, List.getD_eq_getElem?_getD, List.getElem?_eq_getElem hip]
        rfl
      rw [hst] at hd1
      have HST := Lib.hid hst
      have i0 : (0 : Int) ≤ i := by omega
      have i1 : (i : Int) < n := by omega
      have i2 : (i : Int) < b := by omega
      have i3 : (i : Int) ≤ 131072 := by omega
      have hkk : (k : Int) ≤ 131072 := by omega
      generalize sz[i] = p at *
      generalize dsum sz lo k = d at *
      have w2 : IntKind.i64.wrap (d + p) = d + p := IntWalk.i64_in _ (by omega)
      clear hst hip hi hd hd1
      go_wp2_with fail
      go_roundw
      case rel => exact ⟨k + 1, i + 1, by have := HI.out; omega, .inl (by omega), by rw [HST.out], by go_num, hy⟩
      case measure => simp [intOf]; omega
    · have i2 : ¬ (i : Int) < b := by omega
      have hkb : k = b - lo := by omega
      rw [hkb]
      clear hi hkb
      go_wp2_with fail
      go_ret
      exact ⟨rfl, hy⟩
end Go.Proofs.Ytjlhfmedaandeaa
