import Derived.Test.YtjlhfmedaandeaaLinkP1
import Derived.Test.YtjlhfmedaandeaaCode3
/- vestibuleref27.Far. -/
namespace Go.Proofs.Ytjlhfmedaandeaa
open Go.RowKit Go.ChangeShapes Go.WideShapes
set_option linter.unusedVariables false
set_option linter.unusedSimpArgs false

set_option maxHeartbeats 1000000 in
set_option maxRecDepth 100000 in
theorem refFar27 (A : Option Addr) (n c : Nat) (ps : List Sy) (w : World) (hp : ps.length = n) (hok : ∀ i ∈ ps, i.ok) (hn : n ≤ maxLen) (hM : InM w A (sc ps)) :
    Calls Try.prog 22 #[.slice A n c] w fun e w' => e = .returned (.int .i64 (farT ps)) ∧ Ext w w' := by
  have H := Lib.hid (refMay25 A n c ps w hp hok hn hM)
  cases hmay : mayL ps with
  | false =>
    have hf : farT ps = 0 := by unfold farT; rw [hmay]; rfl
    rw [hf]
    rw [hmay] at H
    clear hp hok hn hM hmay hf
    go_enter Try.func22, Try.ntmps22
    go_wp2_with fail
    refine H.out.mono ?_
    rintro e w1 ⟨rfl, hx1⟩
    go_wp2_with fail
    go_ret
    exact ⟨rfl, hx1⟩
  | true =>
    have hY := mayL_of hmay
    have hf : farT ps = dsum (ind (szUp ps (List.range n).reverse)) 0 n := by unfold farT; rw [hmay, if_pos rfl, far_same ps hY, hp]
    rw [hf]
    rw [hmay] at H
    have HS := Lib.hid (fun W hW => refSizes A n c ps W hp hY hW)
    have HM := Lib.hid hM
    have n2 : n ≤ 131072 := by have := hY.l2; omega
    have hl := (szUp_bd ps (List.range n).reverse).2
    rw [hp] at hl
    generalize szUp ps (List.range n).reverse = sz at *
    have HL := Lib.hid hl
    have HB := Lib.hid (dsum_bd (ind sz) (fun x hx => by
      obtain ⟨y, _, rfl⟩ := List.mem_map.1 hx
      split <;> omega) 0)
    clear hp hok hn hM hmay hf hY hl
    go_enter Try.func22, Try.ntmps22
    go_wp2_with fail
    refine H.out.mono ?_
    rintro e w1 ⟨rfl, hx1⟩
    go_wp2_with fail
    refine (HS.out _ (HM.out.ext hx1)).mono ?_
    rintro e w2 ⟨rfl, hb2, hx2⟩
    have hx := hx1.trans hx2
    generalize w1.heap.size = g at *
    clear hx1 hx2 H HS
    go_wp2_with fail
    go_loopw [4, 5] (fun s it W => ∃ k : Nat, k ≤ n ∧ s = .int .i64 (dsum (ind sz) 0 k) ∧ it = .int .i64 k ∧ Ext w2 W) (fun _ it _ => n - (intOf it).toNat)
    case atStart => exact ⟨0, Nat.zero_le _, rfl, rfl, Ext.refl _⟩
    case round =>
      obtain ⟨k, hk, rfl, rfl, hy⟩ := hrel
      by_cases hlt : k < n
      · have hkl : k < sz.length := by rw [HL.out]; exact hlt
        have c1 := ((hb2.ext hy).cell k).trans (show ((nums .i64 sz).toArray)[k]? = some (.int .i64 sz[k]) from by rw [List.getElem?_toArray, nums_at hkl])
        have hst : dsum (ind sz) 0 (k + 1) = dsum (ind sz) 0 k + if sz[k] = 3 then 1 else 0 := by
          show dsum (ind sz) 0 k + (ind sz).getD (0 + k) 0 = _
          rw [Nat.zero_add, List.getD_eq_getElem?_getD]
          unfold ind
          rw [List.getElem?_map, List.getElem?_eq_getElem hkl]
          rfl
        have hd := HB.out k
        have hk3 : (k : Int) ≤ 131072 := by omega
        have k1 : (0 : Int) ≤ k := by omega
        have k2 : (k : Int) < n := by omega
        generalize sz[k] = z at *
        generalize dsum (ind sz) 0 k = d at *
        have w3 : IntKind.i64.wrap (d + 1) = d + 1 := IntWalk.i64_in _ (by omega)
        have HST := Lib.hid hst
        clear hst hd
        rcases hz : (z == 3) with _ | _
        · have hz2 : ¬ z = 3 := by simpa using hz
          have HZ := Lib.hid hz2
          clear hz2
          go_wp2_with fail
          go_roundw
          case rel => exact ⟨k + 1, by omega, by rw [HST.out, if_neg HZ.out, Int.add_zero], by go_num, hy⟩
          case measure => simp [intOf]; omega
        · have hz2 : z = 3 := by simpa using hz
          have HZ := Lib.hid hz2
          clear hz2
          go_wp2_with fail
          go_roundw
          case rel => exact ⟨k + 1, by omega, by rw [HST.out, if_pos HZ.out], by go_num, hy⟩
          case measure => simp [intOf]; omega
      · obtain rfl : k = n := by omega
        go_wp2_with fail
        go_ret
        exact ⟨rfl, hx.trans hy⟩
end Go.Proofs.Ytjlhfmedaandeaa
