import Derived.Test.YtjlhfmedaandeaaCode1
/- code.May: the loop. -/
namespace Go.Proofs.Ytjlhfmedaandeaa
open Go.RowKit Go.ChangeShapes Go.WideShapes
set_option linter.unusedVariables false
set_option linter.unusedSimpArgs false

theorem mayL_no (ps : List Sy) (h : ps.length = 0 ∨ 131072 < ps.length ∨ (ps.getD (ps.length - 1) zeroS).code ≠ 6 ∨ ∃ k, k < ps.length ∧ mayS (ps.getD k zeroS) k ps.length = false) : mayL ps = false := by
  cases hm : mayL ps
  · rfl
  · exfalso
    have := mayL_of hm
    rcases h with h | h | h | ⟨k, hk, h⟩
    · have := this.l1; omega
    · have := this.l2; omega
    · exact h this.last
    · have h2 := this.one k hk
      rw [h] at h2
      cases h2
theorem mayL_yes (ps : List Sy) (h1 : 1 ≤ ps.length) (h2 : ps.length ≤ 131072) (h3 : (ps.getD (ps.length - 1) zeroS).code = 6) (h4 : ∀ k, k < ps.length → mayS (ps.getD k zeroS) k ps.length = true) : mayL ps = true := by
  unfold mayL
  rw [Bool.and_eq_true, Bool.and_eq_true, Bool.and_eq_true]
  exact ⟨⟨⟨decide_eq_true h1, decide_eq_true h2⟩, by rw [h3]; rfl⟩, List.all_eq_true.2 fun k hk => h4 k (List.mem_range.1 hk)⟩
theorem getD_sy {ps : List Sy} {k : Nat} (hk : k < ps.length) : ps.getD k zeroS = ps[k] := by rw [List.getD_eq_getElem?_getD, List.getElem?_eq_getElem hk]; rfl
set_option maxHeartbeats 2000000 in
set_option maxRecDepth 100000 in
theorem codeMay (A : Option Addr) (n c : Nat) (ps : List Sy) (w : World) (hp : ps.length = n) (hok : ∀ i ∈ ps, i.ok) (hn : n ≤ maxLen) (hM : InM w A (sc ps)) :
    Calls Try.prog 24 #[.slice A n c] w fun e w' => e = .returned (.bool (mayL ps)) ∧ Ext w w' := by
  obtain ⟨R, hR⟩ : ∃ R, mayL ps = R := ⟨_, rfl⟩
  rw [hR]
  have HR := Lib.hid hR
  clear hR
  have HM := Lib.hid hM
  have HP := Lib.hid hp
  have HOK := Lib.hid hok
  clear hM hp hok
  by_cases h0 : n = 0
  · subst h0
    go_enter Try.func24, Try.ntmps24
    go_wp2_with fail
    go_ret
    exact ⟨by rw [← HR.out, mayL_no ps (.inl HP.out)]; try rfl, Ext.refl _⟩
  by_cases hbig : 131072 < n
  · have y1 : decide ((n : Int) < 1) = false := by simp; omega
    have y2 : decide ((131072 : Int) < n) = true := by simp; omega
    go_enter Try.func24, Try.ntmps24
    go_wp2_with fail
    go_ret
    exact ⟨by rw [← HR.out, mayL_no ps (.inr (.inl (by rw [HP.out]; exact hbig)))]; try rfl, Ext.refl _⟩
  obtain ⟨m, rfl⟩ : ∃ m, n = m + 1 := ⟨n - 1, by omega⟩
  have hmp : m < ps.length := by rw [HP.out]; omega
  obtain ⟨bA, oA, rfl, _⟩ := sym_some HM.out (by omega)
  obtain ⟨q0, _, _, _⟩ := sym_cells HM.out hmp
  have y1 : decide (((m : Int) + 1) < 1) = false := by simp; omega
  have y2 : decide ((131072 : Int) < (m : Int) + 1) = false := by simp; omega
  have e1 : (((m + 1 : Nat)) : Int) = (m : Int) + 1 := by omega
  have m1 : (m : Int) ≤ 131071 := by omega
  have m0 : (0 : Int) ≤ m := by omega
  have w1 : IntKind.i64.wrap ((m : Int) + 1 - 1) = m := by rw [show (m : Int) + 1 - 1 = m by omega]; exact IntWalk.i64_in _ (by omega)
  have hlast : ps.getD (ps.length - 1) zeroS = ps[m] := by rw [HP.out, Nat.add_sub_cancel]; exact getD_sy hmp
  have HL := Lib.hid hlast
  clear hlast h0 hbig
  rcases hc : (ps[m].code != 6) with _ | _
  · have h6 : ps[m].code = 6 := by simpa using hc
    have H6 := Lib.hid h6
    rw [h6] at q0
    clear hc h6
    clear q0
    obtain ⟨q0, _, _, _⟩ := sym_cells HM.out hmp
    rw [H6.out] at q0
    go_enter Try.func24, Try.ntmps24
    go_wp2_with fail
    clear q0
    go_loopw [25] (fun it W => ∃ k : Nat, k ≤ m + 1 ∧ it = .int .i64 k ∧ (∀ j, j < k → mayS (ps.getD j zeroS) j ((m : Int) + 1) = true) ∧ Ext w W) (fun it _ => (m + 1) - (intOf it).toNat)
    case atStart => exact ⟨0, Nat.zero_le _, rfl, (fun j hj => by omega), Ext.refl _⟩
    case round =>
      obtain ⟨k, hk, rfl, hall, hy⟩ := hrel
      have HA := Lib.hid hall
      clear hall
      by_cases hlt : k < m + 1
      · have hkp : k < ps.length := by rw [HP.out]; exact hlt
        obtain ⟨p0, p1, p2, p3⟩ := sym_cells (HM.out.ext hy) hkp
        have HOk := Lib.hid (HOK.out _ (List.getElem_mem hkp))
        have HG := Lib.hid (getD_sy hkp)
        have k1 : (0 : Int) ≤ k := by omega
        have k2 : (k : Int) < (m : Int) + 1 := by omega
        have k3 : (k : Int) ≤ 131071 := by omega
        generalize ps[k] = s at *
        obtain ⟨co, kk, th, el⟩ := s
        dsimp only at p0 p1 p2 p3
        have CM := Lib.hid (fun W' => mayOneI ⟨co, kk, th, el⟩ HOk.out k ((m : Int) + 1) W')
        go_wp2_with fail
        refine (CM.out _).mono ?_
        rintro e w9 ⟨rfl, hx9⟩
        have hy9 := (hy.alloc _).trans hx9
        rcases hb : mayS ⟨co, kk, th, el⟩ k ((m : Int) + 1) with _ | _
        · have HB := Lib.hid hb
          go_wp2_with fail
          go_ret
          exact ⟨by rw [← HR.out, mayL_no ps (.inr (.inr (.inr ⟨k, hkp, by rw [HG.out, HP.out]; exact HB.out⟩)))]; try rfl, hy9⟩
        · have HB := Lib.hid hb
          go_wp2_with fail
          go_roundw
          case rel =>
            refine ⟨k + 1, by omega, by go_num, fun j hj => ?_, hy9⟩
            by_cases e : j = k
            · subst e
              rw [HG.out]
              exact HB.out
            · exact HA.out j (by omega)
          case measure => simp [intOf]; omega
      · obtain rfl : k = m + 1 := by omega
        go_wp2_with fail
        go_ret
        exact ⟨by rw [← HR.out, mayL_yes ps (by rw [HP.out]; omega) (by rw [HP.out]; omega) (by rw [HL.out]; exact H6.out) (fun k hk => by rw [HP.out] at hk ⊢; exact HA.out k hk)]; try rfl, hy⟩
  · have HC := Lib.hid hc
    generalize hcc : ps[m].code = cc at *
    have HCC := Lib.hid hcc
    clear hcc
    go_enter Try.func24, Try.ntmps24
    go_wp2_with fail
    go_ret
    exact ⟨by rw [← HR.out, mayL_no ps (.inr (.inr (.inl (by rw [HL.out, HCC.out]; have := HC.out; simpa using this))))]; try rfl, Ext.refl _⟩
end Go.Proofs.Ytjlhfmedaandeaa
