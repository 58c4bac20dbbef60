import Derived.Test.YtjlhfmedaandeaaCodA
/- vestibuleref25.May, walked. -/
namespace Go.Proofs.Ytjlhfmedaandeaa
open Go.RowKit Go.ChangeShapes Go.WideShapes
set_option linter.unusedVariables false
set_option linter.unusedSimpArgs false

set_option maxHeartbeats 4000000 in
set_option maxRecDepth 100000 in
theorem refMay25 (A : Option Addr) (n c : Nat) (ps : List Sy) (w : World) (hp : ps.length = n) (hok : ∀ i ∈ ps, i.ok) (hn : n ≤ maxLen) (hM : InM w A (sc ps)) :
    Calls Try.prog 14 #[.slice A n c] w fun e w' => e = .returned (.bool (mayL ps)) ∧ Ext w w' := by
  obtain ⟨R, hR⟩ : ∃ R, mayL ps = R := ⟨_, rfl⟩
  rw [hR]
  have HR := Lib.hid hR
  clear hR
  have HM := Lib.hid hM
  have HP := Lib.hid hp
  have HOK := Lib.hid hok
  clear hM hp hok
  by_cases h0 : n = 0
  · subst h0
    go_enter Try.func14, Try.ntmps14
    go_wp2_with fail
    go_ret
    exact ⟨by rw [← HR.out, mayL_no ps (.inl HP.out)]; try rfl, Ext.refl _⟩
  by_cases hbig : 131072 < n
  · have y1 : ((n : Int) == 0) = false := by simp; omega
    have y2 : decide ((131072 : Int) < n) = true := by simp; omega
    go_enter Try.func14, Try.ntmps14
    go_wp2_with fail
    go_ret
    exact ⟨by rw [← HR.out, mayL_no ps (.inr (.inl (by rw [HP.out]; exact hbig)))]; try rfl, Ext.refl _⟩
  obtain ⟨m, rfl⟩ : ∃ m, n = m + 1 := ⟨n - 1, by omega⟩
  have hmp : m < ps.length := by rw [HP.out]; omega
  obtain ⟨bA, oA, rfl, _⟩ := sym_some HM.out (by omega)
  obtain ⟨q0, _, _, _⟩ := sym_cells HM.out hmp
  have y1 : ((m : Int) + 1 == 0) = false := by simp; omega
  have y2 : decide ((131072 : Int) < (m : Int) + 1) = false := by simp; omega
  have e1 : (((m + 1 : Nat)) : Int) = (m : Int) + 1 := by omega
  have m1 : (m : Int) ≤ 131071 := by omega
  have m0 : (0 : Int) ≤ m := by omega
  have w1 : IntKind.i64.wrap ((m : Int) + 1 - 1) = m := by rw [show (m : Int) + 1 - 1 = m by omega]; exact IntWalk.i64_in _ (by omega)
  have hlast : ps.getD (ps.length - 1) zeroS = ps[m] := by rw [HP.out, Nat.add_sub_cancel]; exact getD_sy hmp
  have HL := Lib.hid hlast
  clear hlast h0 hbig
  rcases hc : (ps[m].code != 6) with _ | _
  · have h6 : ps[m].code = 6 := by simpa using hc
    have H6 := Lib.hid h6
    rw [h6] at q0
    clear hc h6
    clear q0
    obtain ⟨q0, _, _, _⟩ := sym_cells HM.out hmp
    rw [H6.out] at q0
    go_enter Try.func14, Try.ntmps14
    go_wp2_with fail
    clear q0
    go_loopw [3] (fun it W => ∃ k : Nat, k ≤ m + 1 ∧ it = .int .i64 k ∧ (∀ j, j < k → mayS (ps.getD j zeroS) j ((m : Int) + 1) = true) ∧ Ext w W) (fun it _ => (m + 1) - (intOf it).toNat)
    case atStart => exact ⟨0, Nat.zero_le _, rfl, (fun j hj => by omega), Ext.refl _⟩
    case round =>
      obtain ⟨k, hk, rfl, hall, hy⟩ := hrel
      have HA := Lib.hid hall
      clear hall
      by_cases hlt : k < m + 1
      · have hkp : k < ps.length := by rw [HP.out]; exact hlt
        obtain ⟨p0, p1, p2, p3⟩ := sym_cells (HM.out.ext hy) hkp
        have HOk := Lib.hid (HOK.out _ (List.getElem_mem hkp))
        have HG := Lib.hid (getD_sy hkp)
        have k1 : (0 : Int) ≤ k := by omega
        have k2 : (k : Int) < (m : Int) + 1 := by omega
        have k3 : (k : Int) ≤ 131071 := by omega
        generalize ps[k] = s at *
        obtain ⟨co, kk, th, el⟩ := s
        dsimp only at p0 p1 p2 p3
        go_wp2_with fail
        have bs := Blk.new wr 32 #[.int .u16 co, .int .u32 kk, .int .i64 th, .int .i64 el]
        have s0 := (bs).cell 0
        have s1 := (bs).cell 1
        have s2 := (bs).cell 2
        have s3 := (bs).cell 3
        obtain ⟨bT, hbT⟩ : ∃ b, thereS (k : Int) ((m : Int) + 1) th = b := ⟨_, rfl⟩
        obtain ⟨bE, hbE⟩ : ∃ b, thereS (k : Int) ((m : Int) + 1) el = b := ⟨_, rfl⟩
        have HBT := Lib.hid hbT
        have HBE := Lib.hid hbE
        clear hbT hbE
        obtain ⟨QM, hQM⟩ : ∃ QM : Exit → Act → World → Prop, QM = fun e a' W => e = .normal ∧ ∃ v37 v38 v39 v40 v41 v42 v43 v44 v45 v46 v47 v48 v49 v50 v51 v52 v53 v54 v55 v56 v57 v58 : Value, a' = { tmps := #[(Value.slice (some ⟨bA, oA, none⟩) (m + 1) c), undef, u2, Value.int .i64 k, Value.pointer (some ⟨wr.heap.size, 0, none⟩), Value.bool bT, Value.bool bE, u7, u8, (Value.slice (some ⟨bA, oA, none⟩) (m + 1) c), Value.int .i64 ((m : Int) + 1), Value.bool false, Value.bool false, (Value.slice (some ⟨bA, oA, none⟩) (m + 1) c), Value.int .i64 ((m : Int) + 1), Value.bool false, Value.bool false, Value.bool false, (Value.slice (some ⟨bA, oA, none⟩) (m + 1) c), (Value.slice (some ⟨bA, oA, none⟩) (m + 1) c), Value.int .i64 ((m : Int) + 1), Value.int .i64 m, Value.pointer (some ⟨bA, oA + m * 4, none⟩), Value.pointer (some ⟨bA, oA + m * 4, none⟩), Value.int .u16 6, Value.bool false, Value.bool false, Value.int .i64 k, (Value.slice (some ⟨bA, oA, none⟩) (m + 1) c), Value.int .i64 ((m : Int) + 1), Value.bool true, u31, u32, (Value.slice (some ⟨bA, oA, none⟩) (m + 1) c), Value.int .i64 k, Value.pointer (some ⟨bA, oA + k * 4, none⟩), Value.agg #[Value.int .u16 co, Value.int .u32 kk, Value.int .i64 th, Value.int .i64 el], v37, v38, v39, v40, v41, v42, v43, v44, v45, v46, v47, v48, v49, v50, v51, v52, v53, v54, v55, v56, v57, v58, u59, u60, u61, u62, u63, u64, u65, u66, u67, u68, u69, u70, u71, u72, u73, u74, u75, u76, u77, u78, u79, u80, u81, u82, u83, u84, u85, u86, u87, u88, u89, u90, u91, u92, u93, u94, u95, u96, u97, u98, u99, u100, u101, u102, u103, u104, u105, u106, u107, u108, u109, u110], defers := [] } ∧ Ext (wr.alloc (.cells #[.int .u16 co, .int .u32 kk, .int .i64 th, .int .i64 el] 32)) W := ⟨_, rfl⟩
        have HQM := Lib.hid hQM
        clear hQM
        refine wp_mono (Q := QM) ?one ?two
        case one =>
          rcases t1 : decide ((k : Int) < th) with _ | _
          · have hT : bT = false := by rw [← HBT.out]; unfold thereS; rw [t1]; rfl
            subst hT
            rcases e1 : decide ((k : Int) < el) with _ | _
            · have hE : bE = false := by rw [← HBE.out]; unfold thereS; rw [e1]; rfl
              subst hE
              go_quiet (fail)
              rw [HQM.out]
              refine ⟨rfl, ?_⟩
              repeat apply Exists.intro
              exact ⟨rfl, by first | exact Ext.refl _ | exact (Ext.refl _).drewN _⟩
            · rcases e2 : decide (el < (m : Int) + 1) with _ | _
              · have hE : bE = false := by rw [← HBE.out]; unfold thereS; rw [e1, e2]; rfl
                subst hE
                go_quiet (fail)
                rw [HQM.out]
                refine ⟨rfl, ?_⟩
                repeat apply Exists.intro
                exact ⟨rfl, by first | exact Ext.refl _ | exact (Ext.refl _).drewN _⟩
              · have hE : bE = true := by rw [← HBE.out]; unfold thereS; rw [e1, e2]; rfl
                subst hE
                go_quiet (fail)
                rw [HQM.out]
                refine ⟨rfl, ?_⟩
                repeat apply Exists.intro
                exact ⟨rfl, by first | exact Ext.refl _ | exact (Ext.refl _).drewN _⟩
          · rcases t2 : decide (th < (m : Int) + 1) with _ | _
            · have hT : bT = false := by rw [← HBT.out]; unfold thereS; rw [t1, t2]; rfl
              subst hT
              rcases e1 : decide ((k : Int) < el) with _ | _
              · have hE : bE = false := by rw [← HBE.out]; unfold thereS; rw [e1]; rfl
                subst hE
                go_quiet (fail)
                rw [HQM.out]
                refine ⟨rfl, ?_⟩
                repeat apply Exists.intro
                exact ⟨rfl, by first | exact Ext.refl _ | exact (Ext.refl _).drewN _⟩
              · rcases e2 : decide (el < (m : Int) + 1) with _ | _
                · have hE : bE = false := by rw [← HBE.out]; unfold thereS; rw [e1, e2]; rfl
                  subst hE
                  go_quiet (fail)
                  rw [HQM.out]
                  refine ⟨rfl, ?_⟩
                  repeat apply Exists.intro
                  exact ⟨rfl, by first | exact Ext.refl _ | exact (Ext.refl _).drewN _⟩
                · have hE : bE = true := by rw [← HBE.out]; unfold thereS; rw [e1, e2]; rfl
                  subst hE
                  go_quiet (fail)
                  rw [HQM.out]
                  refine ⟨rfl, ?_⟩
                  repeat apply Exists.intro
                  exact ⟨rfl, by first | exact Ext.refl _ | exact (Ext.refl _).drewN _⟩
            · have hT : bT = true := by rw [← HBT.out]; unfold thereS; rw [t1, t2]; rfl
              subst hT
              rcases e1 : decide ((k : Int) < el) with _ | _
              · have hE : bE = false := by rw [← HBE.out]; unfold thereS; rw [e1]; rfl
                subst hE
                go_quiet (fail)
                rw [HQM.out]
                refine ⟨rfl, ?_⟩
                repeat apply Exists.intro
                exact ⟨rfl, by first | exact Ext.refl _ | exact (Ext.refl _).drewN _⟩
              · rcases e2 : decide (el < (m : Int) + 1) with _ | _
                · have hE : bE = false := by rw [← HBE.out]; unfold thereS; rw [e1, e2]; rfl
                  subst hE
                  go_quiet (fail)
                  rw [HQM.out]
                  refine ⟨rfl, ?_⟩
                  repeat apply Exists.intro
                  exact ⟨rfl, by first | exact Ext.refl _ | exact (Ext.refl _).drewN _⟩
                · have hE : bE = true := by rw [← HBE.out]; unfold thereS; rw [e1, e2]; rfl
                  subst hE
                  go_quiet (fail)
                  rw [HQM.out]
                  refine ⟨rfl, ?_⟩
                  repeat apply Exists.intro
                  exact ⟨rfl, by first | exact Ext.refl _ | exact (Ext.refl _).drewN _⟩
        case two =>
        rw [HQM.out]
        clear HQM QM s0 s1 s2 s3
        rintro e a' W ⟨rfl, v37, v38, v39, v40, v41, v42, v43, v44, v45, v46, v47, v48, v49, v50, v51, v52, v53, v54, v55, v56, v57, v58, rfl, hxW⟩
        simp only [Exit.then]
        have bsW := bs.ext hxW
        have hy9 := (hy.alloc (.cells #[.int .u16 co, .int .u32 kk, .int .i64 th, .int .i64 el] 32)).trans hxW
        have s0 := (bsW).cell 0
        have s1 := (bsW).cell 1
        have s2 := (bsW).cell 2
        have s3 := (bsW).cell 3
        have hk0 : 0 ≤ kk := HOk.out.2.1.1
        have tm : kk.tmod 4 = kk % 4 := Int.tmod_eq_emod_of_nonneg hk0
        clear p0 p1 p2 p3 bs hxW hy bsW
        rcases h32 : (co == 32) with _ | _
        · rcases h84 : (co == 84) with _ | _
          · rcases h6 : (co == 6) with _ | _
            · rcases h5 : (co == 5) with _ | _
              · rcases h21 : (co == 21) with _ | _
                · rcases h37 : (co == 37) with _ | _
                  · rcases h53 : (co == 53) with _ | _
                    · rcases h69 : (co == 69) with _ | _
                      · skip
                        have HB := Lib.hid (show mayS ⟨co, kk, th, el⟩ k ((m : Int) + 1) = false from by simp [mayS, noneS, asksC, h32, h84, h6, h5, h21, h37, h53, h69])
                        go_wp2_with fail
                        all_goals
                          go_ret
                          exact ⟨by rw [← HR.out, mayL_no ps (.inr (.inr (.inr ⟨k, hkp, by rw [HG.out, HP.out]; exact HB.out⟩)))]; try rfl, hy9⟩
                      · skip
                        cases bT with
                        | false =>
                          have HB := Lib.hid (show mayS ⟨co, kk, th, el⟩ k ((m : Int) + 1) = false from by simp [mayS, noneS, asksC, h32, h84, h6, h5, h21, h37, h53, h69, HBT.out])
                          go_wp2_with fail
                          all_goals
                            go_ret
                            exact ⟨by rw [← HR.out, mayL_no ps (.inr (.inr (.inr ⟨k, hkp, by rw [HG.out, HP.out]; exact HB.out⟩)))]; try rfl, hy9⟩
                        | true =>
                          cases bE with
                          | false =>
                            have HB := Lib.hid (show mayS ⟨co, kk, th, el⟩ k ((m : Int) + 1) = false from by simp [mayS, noneS, asksC, h32, h84, h6, h5, h21, h37, h53, h69, HBT.out, HBE.out])
                            go_wp2_with fail
                            all_goals
                              go_ret
                              exact ⟨by rw [← HR.out, mayL_no ps (.inr (.inr (.inr ⟨k, hkp, by rw [HG.out, HP.out]; exact HB.out⟩)))]; try rfl, hy9⟩
                          | true =>
                            have HB := Lib.hid (show mayS ⟨co, kk, th, el⟩ k ((m : Int) + 1) = true from by simp [mayS, noneS, asksC, h32, h84, h6, h5, h21, h37, h53, h69, HBT.out, HBE.out])
                            go_wp2_with fail
                            all_goals
                              go_roundw
                              case rel =>
                                refine ⟨k + 1, by omega, by go_num, fun j hj => ?_, hy9⟩
                                by_cases e : j = k
                                · subst e
                                  rw [HG.out]
                                  exact HB.out
                                · exact HA.out j (by omega)
                              case measure => simp [intOf]; omega
                    · skip
                      cases bT with
                      | false =>
                        have HB := Lib.hid (show mayS ⟨co, kk, th, el⟩ k ((m : Int) + 1) = false from by simp [mayS, noneS, asksC, h32, h84, h6, h5, h21, h37, h53, HBT.out])
                        go_wp2_with fail
                        all_goals
                          go_ret
                          exact ⟨by rw [← HR.out, mayL_no ps (.inr (.inr (.inr ⟨k, hkp, by rw [HG.out, HP.out]; exact HB.out⟩)))]; try rfl, hy9⟩
                      | true =>
                        cases bE with
                        | false =>
                          have HB := Lib.hid (show mayS ⟨co, kk, th, el⟩ k ((m : Int) + 1) = false from by simp [mayS, noneS, asksC, h32, h84, h6, h5, h21, h37, h53, HBT.out, HBE.out])
                          go_wp2_with fail
                          all_goals
                            go_ret
                            exact ⟨by rw [← HR.out, mayL_no ps (.inr (.inr (.inr ⟨k, hkp, by rw [HG.out, HP.out]; exact HB.out⟩)))]; try rfl, hy9⟩
                        | true =>
                          have HB := Lib.hid (show mayS ⟨co, kk, th, el⟩ k ((m : Int) + 1) = true from by simp [mayS, noneS, asksC, h32, h84, h6, h5, h21, h37, h53, HBT.out, HBE.out])
                          go_wp2_with fail
                          all_goals
                            go_roundw
                            case rel =>
                              refine ⟨k + 1, by omega, by go_num, fun j hj => ?_, hy9⟩
                              by_cases e : j = k
                              · subst e
                                rw [HG.out]
                                exact HB.out
                              · exact HA.out j (by omega)
                            case measure => simp [intOf]; omega
                  · skip
                    cases bT with
                    | false =>
                      have HB := Lib.hid (show mayS ⟨co, kk, th, el⟩ k ((m : Int) + 1) = false from by simp [mayS, noneS, asksC, h32, h84, h6, h5, h21, h37, HBT.out])
                      go_wp2_with fail
                      all_goals
                        go_ret
                        exact ⟨by rw [← HR.out, mayL_no ps (.inr (.inr (.inr ⟨k, hkp, by rw [HG.out, HP.out]; exact HB.out⟩)))]; try rfl, hy9⟩
                    | true =>
                      cases bE with
                      | false =>
                        have HB := Lib.hid (show mayS ⟨co, kk, th, el⟩ k ((m : Int) + 1) = false from by simp [mayS, noneS, asksC, h32, h84, h6, h5, h21, h37, HBT.out, HBE.out])
                        go_wp2_with fail
                        all_goals
                          go_ret
                          exact ⟨by rw [← HR.out, mayL_no ps (.inr (.inr (.inr ⟨k, hkp, by rw [HG.out, HP.out]; exact HB.out⟩)))]; try rfl, hy9⟩
                      | true =>
                        have HB := Lib.hid (show mayS ⟨co, kk, th, el⟩ k ((m : Int) + 1) = true from by simp [mayS, noneS, asksC, h32, h84, h6, h5, h21, h37, HBT.out, HBE.out])
                        go_wp2_with fail
                        all_goals
                          go_roundw
                          case rel =>
                            refine ⟨k + 1, by omega, by go_num, fun j hj => ?_, hy9⟩
                            by_cases e : j = k
                            · subst e
                              rw [HG.out]
                              exact HB.out
                            · exact HA.out j (by omega)
                          case measure => simp [intOf]; omega
                · skip
                  cases bT with
                  | false =>
                    have HB := Lib.hid (show mayS ⟨co, kk, th, el⟩ k ((m : Int) + 1) = false from by simp [mayS, noneS, asksC, h32, h84, h6, h5, h21, HBT.out])
                    go_wp2_with fail
                    all_goals
                      go_ret
                      exact ⟨by rw [← HR.out, mayL_no ps (.inr (.inr (.inr ⟨k, hkp, by rw [HG.out, HP.out]; exact HB.out⟩)))]; try rfl, hy9⟩
                  | true =>
                    cases bE with
                    | false =>
                      have HB := Lib.hid (show mayS ⟨co, kk, th, el⟩ k ((m : Int) + 1) = false from by simp [mayS, noneS, asksC, h32, h84, h6, h5, h21, HBT.out, HBE.out])
                      go_wp2_with fail
                      all_goals
                        go_ret
                        exact ⟨by rw [← HR.out, mayL_no ps (.inr (.inr (.inr ⟨k, hkp, by rw [HG.out, HP.out]; exact HB.out⟩)))]; try rfl, hy9⟩
                    | true =>
                      have HB := Lib.hid (show mayS ⟨co, kk, th, el⟩ k ((m : Int) + 1) = true from by simp [mayS, noneS, asksC, h32, h84, h6, h5, h21, HBT.out, HBE.out])
                      go_wp2_with fail
                      all_goals
                        go_roundw
                        case rel =>
                          refine ⟨k + 1, by omega, by go_num, fun j hj => ?_, hy9⟩
                          by_cases e : j = k
                          · subst e
                            rw [HG.out]
                            exact HB.out
                          · exact HA.out j (by omega)
                        case measure => simp [intOf]; omega
              · cases bT with
                | false =>
                  have HB := Lib.hid (show mayS ⟨co, kk, th, el⟩ k ((m : Int) + 1) = false from by simp [mayS, noneS, asksC, h32, h84, h6, h5, HBT.out])
                  go_wp2_with fail
                  all_goals
                    go_ret
                    exact ⟨by rw [← HR.out, mayL_no ps (.inr (.inr (.inr ⟨k, hkp, by rw [HG.out, HP.out]; exact HB.out⟩)))]; try rfl, hy9⟩
                | true =>
                  rcases hk : (kk == 0) with _ | _
                  · skip
                    have HB := Lib.hid (show mayS ⟨co, kk, th, el⟩ k ((m : Int) + 1) = false from by simp [mayS, noneS, asksC, h32, h84, h6, h5, hk])
                    go_wp2_with fail
                    all_goals
                      go_ret
                      exact ⟨by rw [← HR.out, mayL_no ps (.inr (.inr (.inr ⟨k, hkp, by rw [HG.out, HP.out]; exact HB.out⟩)))]; try rfl, hy9⟩
                  · rcases hl : (el == 0) with _ | _
                    · skip
                      have HB := Lib.hid (show mayS ⟨co, kk, th, el⟩ k ((m : Int) + 1) = false from by simp [mayS, noneS, asksC, h32, h84, h6, h5, hk, hl])
                      go_wp2_with fail
                      all_goals
                        go_ret
                        exact ⟨by rw [← HR.out, mayL_no ps (.inr (.inr (.inr ⟨k, hkp, by rw [HG.out, HP.out]; exact HB.out⟩)))]; try rfl, hy9⟩
                    · skip
                      have HB := Lib.hid (show mayS ⟨co, kk, th, el⟩ k ((m : Int) + 1) = true from by simp [mayS, noneS, asksC, h32, h84, h6, h5, hk, hl, HBT.out])
                      go_wp2_with fail
                      all_goals
                        go_roundw
                        case rel =>
                          refine ⟨k + 1, by omega, by go_num, fun j hj => ?_, hy9⟩
                          by_cases e : j = k
                          · subst e
                            rw [HG.out]
                            exact HB.out
                          · exact HA.out j (by omega)
                        case measure => simp [intOf]; omega
            · skip
              rcases ht : (th == 0) with _ | _
              · skip
                have HB := Lib.hid (show mayS ⟨co, kk, th, el⟩ k ((m : Int) + 1) = false from by simp [mayS, noneS, asksC, h32, h84, h6, ht])
                go_wp2_with fail
                all_goals
                  go_ret
                  exact ⟨by rw [← HR.out, mayL_no ps (.inr (.inr (.inr ⟨k, hkp, by rw [HG.out, HP.out]; exact HB.out⟩)))]; try rfl, hy9⟩
              · rcases hl : (el == 0) with _ | _
                · skip
                  have HB := Lib.hid (show mayS ⟨co, kk, th, el⟩ k ((m : Int) + 1) = false from by simp [mayS, noneS, asksC, h32, h84, h6, ht, hl])
                  go_wp2_with fail
                  all_goals
                    go_ret
                    exact ⟨by rw [← HR.out, mayL_no ps (.inr (.inr (.inr ⟨k, hkp, by rw [HG.out, HP.out]; exact HB.out⟩)))]; try rfl, hy9⟩
                · skip
                  have HB := Lib.hid (show mayS ⟨co, kk, th, el⟩ k ((m : Int) + 1) = true from by simp [mayS, noneS, asksC, h32, h84, h6, ht, hl])
                  go_wp2_with fail
                  all_goals
                    go_roundw
                    case rel =>
                      refine ⟨k + 1, by omega, by go_num, fun j hj => ?_, hy9⟩
                      by_cases e : j = k
                      · subst e
                        rw [HG.out]
                        exact HB.out
                      · exact HA.out j (by omega)
                    case measure => simp [intOf]; omega
          · skip
            rcases ht : (th == 0) with _ | _
            · skip
              have HB := Lib.hid (show mayS ⟨co, kk, th, el⟩ k ((m : Int) + 1) = false from by simp [mayS, noneS, asksC, h32, h84, ht])
              go_wp2_with fail
              all_goals
                go_ret
                exact ⟨by rw [← HR.out, mayL_no ps (.inr (.inr (.inr ⟨k, hkp, by rw [HG.out, HP.out]; exact HB.out⟩)))]; try rfl, hy9⟩
            · rcases hl : (el == 0) with _ | _
              · skip
                have HB := Lib.hid (show mayS ⟨co, kk, th, el⟩ k ((m : Int) + 1) = false from by simp [mayS, noneS, asksC, h32, h84, ht, hl])
                go_wp2_with fail
                all_goals
                  go_ret
                  exact ⟨by rw [← HR.out, mayL_no ps (.inr (.inr (.inr ⟨k, hkp, by rw [HG.out, HP.out]; exact HB.out⟩)))]; try rfl, hy9⟩
              · skip
                have HB := Lib.hid (show mayS ⟨co, kk, th, el⟩ k ((m : Int) + 1) = true from by simp [mayS, noneS, asksC, h32, h84, ht, hl])
                go_wp2_with fail
                all_goals
                  go_roundw
                  case rel =>
                    refine ⟨k + 1, by omega, by go_num, fun j hj => ?_, hy9⟩
                    by_cases e : j = k
                    · subst e
                      rw [HG.out]
                      exact HB.out
                    · exact HA.out j (by omega)
                  case measure => simp [intOf]; omega
        · rcases ht : (th == 0) with _ | _
          · skip
            have HB := Lib.hid (show mayS ⟨co, kk, th, el⟩ k ((m : Int) + 1) = false from by simp [mayS, noneS, asksC, h32, ht])
            go_wp2_with fail
            all_goals
              go_ret
              exact ⟨by rw [← HR.out, mayL_no ps (.inr (.inr (.inr ⟨k, hkp, by rw [HG.out, HP.out]; exact HB.out⟩)))]; try rfl, hy9⟩
          · rcases hl : (el == 0) with _ | _
            · skip
              have HB := Lib.hid (show mayS ⟨co, kk, th, el⟩ k ((m : Int) + 1) = false from by simp [mayS, noneS, asksC, h32, ht, hl])
              go_wp2_with fail
              all_goals
                go_ret
                exact ⟨by rw [← HR.out, mayL_no ps (.inr (.inr (.inr ⟨k, hkp, by rw [HG.out, HP.out]; exact HB.out⟩)))]; try rfl, hy9⟩
            · rcases hk4 : (kk % 4 == 0) with _ | _
              · skip
                have HB := Lib.hid (show mayS ⟨co, kk, th, el⟩ k ((m : Int) + 1) = false from by simp [mayS, noneS, asksC, h32, ht, hl, hk4])
                go_wp2_with fail
                all_goals
                  go_ret
                  exact ⟨by rw [← HR.out, mayL_no ps (.inr (.inr (.inr ⟨k, hkp, by rw [HG.out, HP.out]; exact HB.out⟩)))]; try rfl, hy9⟩
              · rcases h64 : decide (kk < 64) with _ | _
                · skip
                  have HB := Lib.hid (show mayS ⟨co, kk, th, el⟩ k ((m : Int) + 1) = false from by simp [mayS, noneS, asksC, h32, ht, hl, hk4, h64])
                  go_wp2_with fail
                  all_goals
                    go_ret
                    exact ⟨by rw [← HR.out, mayL_no ps (.inr (.inr (.inr ⟨k, hkp, by rw [HG.out, HP.out]; exact HB.out⟩)))]; try rfl, hy9⟩
                · skip
                  have HB := Lib.hid (show mayS ⟨co, kk, th, el⟩ k ((m : Int) + 1) = true from by simp [mayS, noneS, asksC, h32, ht, hl, hk4, h64])
                  go_wp2_with fail
                  all_goals
                    go_roundw
                    case rel =>
                      refine ⟨k + 1, by omega, by go_num, fun j hj => ?_, hy9⟩
                      by_cases e : j = k
                      · subst e
                        rw [HG.out]
                        exact HB.out
                      · exact HA.out j (by omega)
                    case measure => simp [intOf]; omega
      · obtain rfl : k = m + 1 := by omega
        go_wp2_with fail
        go_ret
        exact ⟨by rw [← HR.out, mayL_yes ps (by rw [HP.out]; omega) (by rw [HP.out]; omega) (by rw [HL.out]; exact H6.out) (fun k hk => by rw [HP.out] at hk ⊢; exact HA.out k hk)]; try rfl, hy⟩
  · have HC := Lib.hid hc
    generalize hcc : ps[m].code = cc at *
    have HCC := Lib.hid hcc
    clear hcc
    go_enter Try.func14, Try.ntmps14
    go_wp2_with fail
    go_ret
    exact ⟨by rw [← HR.out, mayL_no ps (.inr (.inr (.inl (by rw [HL.out, HCC.out]; have := HC.out; simpa using this))))]; try rfl, Ext.refl _⟩
end Go.Proofs.Ytjlhfmedaandeaa
