import Derived.Test.YtjlhfmedaandeaaOref1
/- vestibuleref26: Share, Thread. -/
namespace Go.Proofs.Ytjlhfmedaandeaa
open Go.RowKit Go.ChangeShapes Go.WideShapes
set_option linter.unusedVariables false
set_option linter.unusedSimpArgs false

theorem jump_kind {s : Sy} {a n : Int} (h : Kind s a n) : jumpS s = (s.code == 5 || asksC s.code) := rfl
set_option maxHeartbeats 4000000 in
set_option maxRecDepth 100000 in
theorem refShareI (b o n c : Nat) (ps : List Sy) (w : World) (hp : ps.length = n) (hY : MayL ps) (hM : InM w (some ⟨b, o, none⟩) (sc ps)) :
    Calls Try.prog 30 #[.slice (some ⟨b, o, none⟩) n c] w fun e w' => ∃ g c' more, e = .returned (.slice (some ⟨g, 0, none⟩) n c') ∧ Blk w' g 32 (sc (shareL ps) ++ more).toArray ∧ w.heap.size ≤ g ∧ Ext w w' := by
  have n1 : 1 ≤ n := by have := hY.l1; omega
  have n2 : n ≤ 131072 := by have := hY.l2; omega
  have HC := Lib.hid (refCopyS (some ⟨b, o, none⟩) n c ps w hp (by omega) hM)
  have HM := Lib.hid hM
  have HP := Lib.hid hp
  have HY := Lib.hid hY
  have HALL := Lib.hid (mvUp_all (lastT ps) ps)
  have HSUC := Lib.hid (mvUp_succ (lastT ps) ps)
  have HSAM := Lib.hid (mvUp_same (lastT ps) ps)
  have HLEN := Lib.hid (mvUp_len (lastT ps) ps)
  have HGET := Lib.hid (mvUp_get (lastT ps) ps)
  have HZER := Lib.hid (mvUp_zero (lastT ps) ps)
  have HLA := Lib.hid (fun t ht W hW => refLast b o n c ps t ht hp n2 W hW)
  clear hp hY hM
  go_enter Try.func30, Try.ntmps30
  go_wp2_with fail
  refine (HC.out).mono ?_
  rintro e w1 ⟨B, c', rfl, ho1, hx1⟩
  obtain ⟨g, more, rfl, hb1, hg⟩ := own_blk ho1 n1
  have HB1 := Lib.hid hb1
  clear ho1 hb1 HC
  go_wp2_with fail
  go_loopw [4] (fun it W => ∃ k : Nat, k ≤ n ∧ it = .int .i64 k ∧ Ext w W ∧ Blk W g 32 (sc (mvUp (lastT ps) ps k) ++ more).toArray) (fun it _ => n - (intOf it).toNat)
  case atStart => exact ⟨0, Nat.zero_le _, rfl, hx1, by rw [HZER.out]; exact HB1.out⟩
  case round =>
    clear hx1 HB1
    obtain ⟨k, hk, rfl, hy, hB⟩ := hrel
    by_cases hlt : k < n
    · have hkp : k < ps.length := by rw [HP.out]; exact hlt
      have hkq : k < (mvUp (lastT ps) ps k).length := by rw [HLEN.out]; exact hkp
      have hK := kind_of (HY.out.one k hkp)
      have hgd : ps.getD k zeroS = ps[k] := by simp [List.getD_eq_getElem?_getD, hkp]
      have hqk : (mvUp (lastT ps) ps k)[k] = ps.getD k zeroS := by
        have := HGET.out k k hkp
        rw [if_neg (by omega)] at this
        rw [← this]
        simp [List.getD_eq_getElem?_getD, hkq]
      have hsu := HSUC.out k hkp
      have hsa := HSAM.out k hkp
      have PC := Lib.hid (fun W' (h : Ext w W') => sym_cells (HM.out.ext h) hkp)
      rw [HP.out] at hK
      rw [hgd] at hK hqk hsu hsa
      have HJ := Lib.hid (fun W' => refJump26 ps[k] W')
      have HAs := Lib.hid (fun W' => refAsks26 ps[k] W')
      have k1 : (0 : Int) ≤ k := by omega
      have k2 : (k : Int) < n := by omega
      have k3 : (k : Int) ≤ 131072 := by omega
      generalize hq : mvUp (lastT ps) ps k = qs at *
      generalize hq2 : mvUp (lastT ps) ps (k + 1) = qs2 at *
      have HQ2 := Lib.hid hq2
      clear hgd
      generalize ps[k] = s at *
      clear hkp
      obtain ⟨co, kk, th, el⟩ := s
      unfold Sy.val Sy.cells at HJ HAs
      unfold jumpS at HJ
      dsimp only at *
      obtain ⟨q0, q1, q2, q3⟩ := PC.out _ hy
      clear hq hq2
      by_cases hA : asksC co = true
      · have hq := asks_code.1 hA
        obtain ⟨⟨t, rfl, ht⟩, ⟨u, rfl, hu⟩⟩ : (∃ t : Nat, th = t ∧ t < n) ∧ (∃ u : Nat, el = u ∧ u < n) := by
          rcases hK with ⟨q, _, _, _⟩ | ⟨q, _, _⟩ | ⟨q, _, _⟩ | ⟨q, _, _, q1⟩ | ⟨q, q1, q2⟩
          · dsimp only at q; omega
          · dsimp only at q; omega
          · dsimp only at q; omega
          · dsimp only at q; omega
          · dsimp only at q1 q2; exact ⟨⟨th.toNat, by omega, by omega⟩, ⟨el.toNat, by omega, by omega⟩⟩
        have hs2 := Lib.hid (show qs.set k ⟨co, kk, lastT ps t, lastT ps u⟩ = qs2 from by rw [mv_asks (s := ⟨co, kk, (t : Int), (u : Int)⟩) _ hA] at hsu; exact hsu)
        have hj : (co == 5 || asksC co) = true := by rw [hA]; simp
        rw [hj] at HJ
        rw [hA] at HAs
        generalize hlt : lastT ps t = x at *
        generalize hlu : lastT ps u = y at *
        have HLT := Lib.hid (fun W hW => HLA.out t ht W hW)
        have HLU := Lib.hid (fun W hW => HLA.out u hu W hW)
        rw [hlt] at HLT
        rw [hlu] at HLU
        clear hK hsu hsa hA hq hj hlt hlu
        go_wp2_with fail
        refine (HJ.out _).mono ?_
        rintro e w9 ⟨rfl, hx9⟩
        have hE9 := (hy).trans hx9
        clear q0 q1 q2 q3
        obtain ⟨q0, q1, q2, q3⟩ := PC.out _ hE9
        go_wp2_with fail
        refine (HLT.out _ (HM.out.ext hE9)).mono ?_
        rintro e w10 ⟨rfl, hx10⟩
        have hE10 := (hE9).trans hx10
        clear q0 q1 q2 q3
        obtain ⟨q0, q1, q2, q3⟩ := PC.out _ hE10
        have hB10 := hB.ext (hx9.trans hx10)
        have HB11 := Lib.hid (blk_th hB10 hkq hqk x)
        have hE11 := (hE10).set (p := ⟨g, k * 4 + 2, none⟩) hg (.int .i64 x)
        have c10 := (blk_sym hB10 hkq hqk).2.2.1
        have f10 := hB10.frozen (k * 4 + 2)
        clear q0 q1 q2 q3
        obtain ⟨q0, q1, q2, q3⟩ := PC.out _ hE11
        clear hB10
        have E11 := Lib.hid hE11
        clear hE11
        go_wp2_with fail
        clear c10 f10
        refine (HAs.out _).mono ?_
        rintro e w12 ⟨rfl, hx12⟩
        have hE12 := E11.out.trans hx12
        clear q0 q1 q2 q3
        obtain ⟨q0, q1, q2, q3⟩ := PC.out _ hE12
        go_wp2_with fail
        refine (HLU.out _ (HM.out.ext hE12)).mono ?_
        rintro e w13 ⟨rfl, hx13⟩
        have hE13 := (hE12).trans hx13
        clear q0 q1 q2 q3
        obtain ⟨q0, q1, q2, q3⟩ := PC.out _ hE13
        have hB13 := HB11.out.ext (hx12.trans hx13)
        have hkq2 : k < (qs.set k ⟨co, kk, x, (u : Int)⟩).length := by rw [List.length_set]; exact hkq
        have hqk2 : (qs.set k ⟨co, kk, x, (u : Int)⟩)[k] = ⟨co, kk, x, (u : Int)⟩ := List.getElem_set_self ..
        have hB14 := blk_el hB13 hkq2 hqk2 y
        have hE14 := hE13.set (p := ⟨g, k * 4 + 3, none⟩) hg (.int .i64 y)
        have c13 := (blk_sym hB13 hkq2 hqk2).2.2.2
        have f13 := hB13.frozen (k * 4 + 3)
        rw [List.set_set, hs2.out] at hB14
        have B14 := Lib.hid hB14
        have E14 := Lib.hid hE14
        clear hB13 hB14 hE14 hqk2 q0 q1 q2 q3
        go_wp2_with fail
        go_roundw
        case rel => exact ⟨k + 1, by omega, by go_num, E14.out, by rw [HQ2.out]; exact B14.out⟩
        case measure => simp [intOf]; omega
      · have hA' : asksC co = false := by simpa using hA
        by_cases h5 : co = 5
        · subst h5
          obtain ⟨t, rfl, ht⟩ : ∃ t : Nat, th = t ∧ t < n := by
            rcases hK with ⟨q, _, _, _⟩ | ⟨q, _, _⟩ | ⟨q, _, _⟩ | ⟨q, _, _, q1⟩ | ⟨q, q1, q2⟩
            · dsimp only at q; omega
            · dsimp only at q; omega
            · dsimp only at q; omega
            · dsimp only at q1; exact ⟨th.toNat, by omega, by omega⟩
            · dsimp only at q; omega
          have hs2 := Lib.hid (show qs.set k ⟨5, kk, lastT ps t, el⟩ = qs2 from by rw [mv_ja (s := ⟨5, kk, (t : Int), el⟩) _ rfl] at hsu; exact hsu)
          have hj : ((5 : Int) == 5 || asksC 5) = true := rfl
          rw [hj] at HJ
          rw [hA'] at HAs
          generalize hlt : lastT ps t = x at *
          have HLT := Lib.hid (fun W hW => HLA.out t ht W hW)
          rw [hlt] at HLT
          clear hK hsu hsa hA hA' hj hlt
          go_wp2_with fail
          refine (HJ.out _).mono ?_
          rintro e w9 ⟨rfl, hx9⟩
          have hE9 := (hy).trans hx9
          clear q0 q1 q2 q3
          obtain ⟨q0, q1, q2, q3⟩ := PC.out _ hE9
          go_wp2_with fail
          refine (HLT.out _ (HM.out.ext hE9)).mono ?_
          rintro e w10 ⟨rfl, hx10⟩
          have hE10 := (hE9).trans hx10
          clear q0 q1 q2 q3
          obtain ⟨q0, q1, q2, q3⟩ := PC.out _ hE10
          have hB10 := hB.ext (hx9.trans hx10)
          have HB11 := Lib.hid (blk_th hB10 hkq hqk x)
          have hE11 := (hE10).set (p := ⟨g, k * 4 + 2, none⟩) hg (.int .i64 x)
          have c10 := (blk_sym hB10 hkq hqk).2.2.1
          have f10 := hB10.frozen (k * 4 + 2)
          clear q0 q1 q2 q3
          obtain ⟨q0, q1, q2, q3⟩ := PC.out _ hE11
          clear hB10
          have E11 := Lib.hid hE11
          clear hE11
          go_wp2_with fail
          clear c10 f10
          refine (HAs.out _).mono ?_
          rintro e w12 ⟨rfl, hx12⟩
          have hE12 := E11.out.trans hx12
          have hB12 := HB11.out.ext hx12
          rw [hs2.out] at hB12
          have B12 := Lib.hid hB12
          clear q0 q1 q2 q3 hB12
          go_wp2_with fail
          go_roundw
          case rel => exact ⟨k + 1, by omega, by go_num, hE12, by rw [HQ2.out]; exact B12.out⟩
          case measure => simp [intOf]; omega
        · have hno : co = 32 ∨ co = 84 ∨ co = 6 := by
            rcases hK with ⟨q, _, _, _⟩ | ⟨q, _, _⟩ | ⟨q, _, _⟩ | ⟨q, _, _, q1⟩ | ⟨q, q1, q2⟩
            · exact .inl q
            · exact .inr (.inl q)
            · exact .inr (.inr q)
            · exact absurd q h5
            · exact absurd (asks_code.2 q) hA
          have hs2 := Lib.hid (hsa (mv_none (s := ⟨co, kk, th, el⟩) _ hno))
          have hj : (co == 5 || asksC co) = false := by rw [hA']; simpa using h5
          rw [hj] at HJ
          rw [hA'] at HAs
          clear hK hsu hsa hA hA' hj h5 hno
          go_wp2_with fail
          refine (HJ.out _).mono ?_
          rintro e w9 ⟨rfl, hx9⟩
          have hE9 := (hy).trans hx9
          clear q0 q1 q2 q3
          obtain ⟨q0, q1, q2, q3⟩ := PC.out _ hE9
          go_wp2_with fail
          refine (HAs.out _).mono ?_
          rintro e w12 ⟨rfl, hx12⟩
          have hE12 := hE9.trans hx12
          have B12 := Lib.hid (hB.ext (hx9.trans hx12))
          clear q0 q1 q2 q3 hB
          go_wp2_with fail
          go_roundw
          case rel => exact ⟨k + 1, by omega, by go_num, hE12, by rw [HQ2.out, hs2.out]; exact B12.out⟩
          case measure => simp [intOf]; omega
    · obtain rfl : k = n := by omega
      have HB := Lib.hid hB
      clear hB
      go_wp2_with fail
      go_ret
      exact ⟨g, c', more, rfl, by show Blk _ _ _ (sc (ps.map (mv (lastT ps))) ++ more).toArray; rw [← HALL.out, HP.out]; exact HB.out, hg, hy⟩
end Go.Proofs.Ytjlhfmedaandeaa
