import Derived.Test.YtjlhfmedaandeaaMoved1
import Derived.Test.YtjlhfmedaandeaaSym2
/- vestibuleref26: through, last, Thread, Share. -/
namespace Go.Proofs.Ytjlhfmedaandeaa
open Go.RowKit Go.ChangeShapes Go.WideShapes
set_option linter.unusedVariables false
set_option linter.unusedSimpArgs false

set_option maxRecDepth 100000 in
theorem refThrough (b o n c : Nat) (ps : List Sy) (t : Nat) (ht : t < n) (hp : ps.length = n) (W : World) (hM : InM W (some ⟨b, o, none⟩) (sc ps)) :
    Calls Try.prog 54 #[.slice (some ⟨b, o, none⟩) n c, .int .i64 t] W fun e w' => e = .returned (.int .i64 (thrT ps t)) ∧ Ext W w' := by
  have htp : t < ps.length := by omega
  obtain ⟨c0, c1, c2, c3⟩ := sym_cells hM htp
  have hR : thrT ps t = if ps[t].code = 5 then ps[t].th else (t : Int) := by
    unfold thrT
    rw [Int.toNat_natCast, show ps.getD t zeroS = ps[t] by simp [List.getD_eq_getElem?_getD, htp]]
  rw [hR]
  have t0 : (0 : Int) ≤ t := by omega
  have t1 : (t : Int) < n := by omega
  generalize ps[t] = s at *
  obtain ⟨co, kk, th, el⟩ := s
  dsimp only at *
  clear hR hM hp htp ht
  by_cases h5 : co = 5
  · rw [if_pos h5]
    have e5 : (co == 5) = true := by simpa using h5
    clear h5
    go_enter Try.func54, Try.ntmps54
    go_wp2
    go_ret
    exact ⟨rfl, Ext.refl _⟩
  · rw [if_neg h5]
    have e5 : (co == 5) = false := by simpa using h5
    clear h5
    go_enter Try.func54, Try.ntmps54
    go_wp2
    go_ret
    exact ⟨rfl, Ext.refl _⟩
theorem lastR_z (ps : List Sy) (kk : Int) (t : Nat) (h1 : (ps.getD t zeroS).code = 6) (h2 : (ps.getD t zeroS).k = kk) : ∀ m z z', t < m → lastR ps kk z m = lastR ps kk z' m
  | 0, z, z', h => by omega
  | m + 1, z, z', h => by
    unfold lastR
    by_cases e : (ps.getD m zeroS).code = 6 ∧ (ps.getD m zeroS).k = kk
    · rw [if_pos e, if_pos e]
    · rw [if_neg e, if_neg e]
      have : t ≠ m := fun q => by subst q; exact e ⟨h1, h2⟩
      exact lastR_z ps kk t h1 h2 m z z' (by omega)
def lastI (ps : List Sy) (kk : Int) (t i : Nat) : Nat := if i = t then t else lastR ps kk 0 i
theorem lastI_succ (ps : List Sy) (t i : Nat) (kk : Int) (h1 : (ps.getD t zeroS).code = 6) (h2 : (ps.getD t zeroS).k = kk) (hi : t ≤ i) : lastI ps kk t (i + 1) = if (ps.getD i zeroS).code = 6 ∧ (ps.getD i zeroS).k = kk then i else lastI ps kk t i := by
  unfold lastI
  rw [if_neg (by omega)]
  conv => lhs; unfold lastR
  by_cases e : (ps.getD i zeroS).code = 6 ∧ (ps.getD i zeroS).k = kk
  · rw [if_pos e, if_pos e]
  · rw [if_neg e, if_neg e]
    have : i ≠ t := fun q => by subst q; exact e ⟨h1, h2⟩
    rw [if_neg this]
theorem lastR_le (ps : List Sy) (kk : Int) : ∀ m, lastR ps kk 0 m ≤ m
  | 0 => Nat.le_refl _
  | m + 1 => by
    have := lastR_le ps kk m
    unfold lastR
    split <;> omega
set_option maxHeartbeats 1000000 in
set_option maxRecDepth 100000 in
theorem refLast (b o n c : Nat) (ps : List Sy) (t : Nat) (ht : t < n) (hp : ps.length = n) (n2 : n ≤ 131072) (W : World) (hM : InM W (some ⟨b, o, none⟩) (sc ps)) :
    Calls Try.prog 55 #[.slice (some ⟨b, o, none⟩) n c, .int .i64 t] W fun e w' => e = .returned (.int .i64 (lastT ps t)) ∧ Ext W w' := by
  have htp : t < ps.length := by omega
  have hgt : ps.getD t zeroS = ps[t] := by simp [List.getD_eq_getElem?_getD, htp]
  have HC := Lib.hid (fun W' (h : Ext W W') => sym_cells (hM.ext h) htp)
  have HM := Lib.hid hM
  have HP := Lib.hid hp
  have t0 : (0 : Int) ≤ t := by omega
  have t1 : (t : Int) < n := by omega
  have t2 : (n : Int) ≤ 131072 := by omega
  have hR : lastT ps t = if ps[t].code = 6 then ((lastI ps ps[t].k t n : Nat) : Int) else (t : Int) := by
    have hn : lastI ps ps[t].k t n = lastR ps ps[t].k 0 n := by unfold lastI; rw [if_neg (by omega)]
    unfold lastT
    rw [Int.toNat_natCast, hgt, hn, hp]
  rw [hR]
  have HLS := Lib.hid (fun i => lastI_succ ps t i ps[t].k)
  have HL0 := Lib.hid (show lastI ps ps[t].k t t = t from by unfold lastI; rw [if_pos rfl])
  rw [hgt] at HLS
  generalize hs : ps[t] = s at *
  obtain ⟨co, kk, th, el⟩ := s
  dsimp only at HC HLS HL0 hR ⊢
  clear hR hM hp htp hgt hs
  by_cases h6 : co = 6
  · rw [if_pos h6]
    subst h6
    have HLS2 := Lib.hid (fun i hi => HLS.out i rfl rfl hi)
    clear HLS
    go_enter Try.func55, Try.ntmps55
    go_wp2_with fail
    go_loopw [5, 6] (fun v it W' => ∃ i : Nat, t ≤ i ∧ i ≤ n ∧ v = .int .i64 ((lastI ps kk t i : Nat) : Int) ∧ it = .int .i64 i ∧ Ext W W') (fun _ it _ => n - (intOf it).toNat)
    case atStart => exact ⟨t, Nat.le_refl _, by omega, by rw [HL0.out], rfl, Ext.refl _⟩
    case round =>
      obtain ⟨i, hti, hin, rfl, rfl, hy⟩ := hrel
      obtain ⟨c0, c1, c2, c3⟩ := HC.out _ hy
      by_cases hlt : i < n
      · have hip : i < ps.length := by rw [HP.out]; exact hlt
        obtain ⟨d0, d1, d2, d3⟩ := sym_cells (HM.out.ext hy) hip
        have hls := HLS2.out i hti
        rw [show ps.getD i zeroS = ps[i] by simp [List.getD_eq_getElem?_getD, hip]] at hls
        have i0 : (0 : Int) ≤ i := by omega
        have i1 : (i : Int) < n := by omega
        have i2 : decide ((i : Int) < n) = true := by simp; omega
        have HS := Lib.hid hls
        clear hls
        generalize ps[i] = s at *
        obtain ⟨co2, kk2, th2, el2⟩ := s
        dsimp only at d0 d1 d2 d3 HS
        clear hip
        rcases e1 : (co2 == 6) with _ | _
        · have HS2 := Lib.hid (HS.out.trans (if_neg (fun h => by rw [h.1] at e1; exact absurd e1 (by decide))))
          go_wp2_with fail
          go_quiet (fail)
          go_wp2_with fail
          go_roundw
          case rel => exact ⟨i + 1, by omega, by omega, by rw [HS2.out], by go_num, hy.drewN _⟩
          case measure => simp [intOf]; omega
        · rcases e2 : (kk2 == kk) with _ | _
          · have HS2 := Lib.hid (HS.out.trans (if_neg (fun h => by rw [h.2] at e2; simp at e2)))
            go_wp2_with fail
            go_quiet (fail)
            go_wp2_with fail
            go_roundw
            case rel => exact ⟨i + 1, by omega, by omega, by rw [HS2.out], by go_num, hy.drewN _⟩
            case measure => simp [intOf]; omega
          · have HS2 := Lib.hid (HS.out.trans (if_pos ⟨by simpa using e1, by simpa using e2⟩))
            go_wp2_with fail
            go_quiet (fail)
            go_wp2_with fail
            go_roundw
            case rel => exact ⟨i + 1, by omega, by omega, by rw [HS2.out], by go_num, hy.drewN _⟩
            case measure => simp [intOf]; omega
      · obtain rfl : i = n := by omega
        go_wp2_with fail
        go_ret
        exact ⟨rfl, hy⟩
  · rw [if_neg h6]
    have e6 : (co == 6) = false := by simpa using h6
    obtain ⟨c0, c1, c2, c3⟩ := HC.out _ (Ext.refl W)
    clear h6 HLS HL0
    go_enter Try.func55, Try.ntmps55
    go_wp2_with fail
    refine wp_loop_rounds 1 ?_
    rw [rounds_succ]
    go_wp2_with fail
    go_ret
    exact ⟨rfl, Ext.refl _⟩
end Go.Proofs.Ytjlhfmedaandeaa
