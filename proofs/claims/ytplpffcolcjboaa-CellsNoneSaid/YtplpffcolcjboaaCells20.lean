import Derived.Test.YtplpffcolcjboaaCells19
/- The document's Sure. -/
namespace Go.Proofs.Ytplpffcolcjboaa
open Go.RowKit Go.ChangeShapes Go.WideShapes
set_option linter.unusedVariables false
set_option linter.unusedSimpArgs false

theorem rstart_zero : rstart 0 = [] := rfl
theorem pow16_wrap (m : Nat) (hm : m < 16) : IntKind.u16.wrap ((2 : Int) ^ m) = ((2 ^ m : Nat) : Int) := by
  have hp : 2 ^ m < 65536 := Nat.lt_of_lt_of_le (Nat.pow_lt_pow_right (by omega) hm) (by decide)
  have e : ((2 : Int) ^ m) = ((2 ^ m : Nat) : Int) := by simp
  rw [e]
  generalize 2 ^ m = x at *
  exact IntWalk.u16_in _ (by omega)
set_option maxHeartbeats 4000000 in
set_option maxRecDepth 100000 in
theorem refSure (A : Option Addr) (n c0 : Nat) (ps : List Ins) (w : World) (hp : ps.length = n) (hb : n ≤ 100000) (hok : ∀ i ∈ ps, i.ok) (hM : InM w A (pc ps)) :
    Calls Try.prog 36 #[.slice A n c0] w fun e w' => ∃ P, e = .returned (.slice P (sureL ps).length (sureL ps).length) ∧ InM w' P (nums .u16 (sureL ps)) ∧ Ext w w' := by
  by_cases big : 4096 < n
  · have hr : sureL ps = [] := by unfold sureL; rw [if_pos (by omega)]
    rw [hr]
    have d1 : (4096 : Int) < n := by omega
    clear hr hp hb hok hM big
    go_enter Try.func36, Try.ntmps36
    go_wp2
    go_ret
    exact ⟨none, rfl, InM.nil _ _, Ext.refl _⟩
  · have hr : sureL ps = cellsUpto ps 16 := by unfold sureL; rw [if_neg (by omega)]
    rw [hr]
    have hsl : ∀ k, (cellsUpto ps k).length = n := fun k => by rw [cellsUpto_length, hp]
    rw [hsl]
    have hmk1 : ∀ w : World, (Instr.makeSlice 32 (.int .i64 (n : Int)) (.int .i64 (n : Int))).run Try.prog w = .ok (.slice (some ⟨w.heap.size, 0, none⟩) n n) (w.alloc (.cells (bools (List.replicate n false)) 4)) := fun w => by
      rw [← bools_rep]
      exact make_run1 32 4 (.bool false) 1 Try.underlying32 info_bool rfl .i64 .i64 n n (Nat.le_refl _) (by omega) (by decide) w
    have hmk2 : ∀ w : World, (Instr.makeSlice 50 (.int .i64 (n : Int)) (.int .i64 (n : Int))).run Try.prog w = .ok (.slice (some ⟨w.heap.size, 0, none⟩) n n) (w.alloc (.cells (masks (List.replicate n 0)) 22)) := fun w => by
      rw [← masks_rep]
      exact make_run1 50 22 (.int .u16 0) 2 Try.underlying50 info_u16' rfl .i64 .i64 n n (Nat.le_refl _) (by omega) (by decide) w
    have HNX := Lib.hid (fun (a : Int) (W : World) (h : InM W A (pc ps)) => refNextI A n c0 ps a W hp hb hok h)
    have HBD := Lib.hid (fun a : Int => nextL_bd ps hok a)
    have HUL := Lib.hid (fun c k => by have := uupto_length ps c k; rw [hp] at this; exact this : ∀ c k, (uupto ps c k).length = n)
    have HUS := Lib.hid (uupto_succ ps)
    have HCL := Lib.hid (cellUpto_length ps)
    have HCS := Lib.hid (cellUpto_succ ps)
    have HSL := Lib.hid hsl
    have HSS := Lib.hid (cellsUpto_succ ps)
    have HP := Lib.hid hp
    have HM := Lib.hid hM
    have HOK := Lib.hid hok
    have d1 : ¬ (4096 : Int) < n := by omega
    have hx0 := (Ext.refl w).alloc (.cells (masks (List.replicate n 0)) 22)
    have B0 := Blk.new w 22 (masks (List.replicate n 0))
    have hr0 : cellsUpto ps 0 = List.replicate n 0 := by simp [cellsUpto, hp]
    have HR0 := Lib.hid hr0
    clear hr hsl hok hM hr0 hp
    rcases Nat.eq_zero_or_pos n with h0 | h0
    · subst h0
      clear HNX HBD HUS B0 HUL HCL HCS HSL HM HOK HR0
      have hmk10 : ∀ w : World, (Instr.makeSlice 32 (.int .i64 0) (.int .i64 0)).run Try.prog w = .ok (.slice (some ⟨w.heap.size, 0, none⟩) 0 0) (w.alloc (.cells (bools (List.replicate 0 false)) 4)) := hmk1
      have hmk20 : ∀ w : World, (Instr.makeSlice 50 (.int .i64 0) (.int .i64 0)).run Try.prog w = .ok (.slice (some ⟨w.heap.size, 0, none⟩) 0 0) (w.alloc (.cells (masks (List.replicate 0 0)) 22)) := hmk2
      clear hmk1 hmk2
      go_enter Try.func36, Try.ntmps36
      go_wp2_with fail
      go_loopw [4] (fun i wr => ∃ m : Nat, m ≤ 16 ∧ i = .int .i64 m ∧ Ext w wr) (fun i _ => 16 - (intOf i).toNat)
      case atStart => exact ⟨0, by omega, rfl, hx0⟩
      case round =>
        clear hx0
        obtain ⟨m, hm, rfl, hx⟩ := hrel
        by_cases hlt : m < 16
        · have m1 : (m : Int) < 16 := by omega
          go_wp2_with fail
          go_loopw [6] (fun i wr' => i = .int .i64 0 ∧ Ext w wr') (fun i _ => 0)
          case atStart => exact ⟨rfl, hx.alloc _⟩
          case round =>
            clear hx
            obtain ⟨rfl, hx⟩ := hrel
            go_wp2_with fail
            go_roundw
            case rel => exact ⟨m + 1, by omega, by go_num, hx⟩
            case measure => simp [intOf]; omega
        · have m1 : ¬ (m : Int) < 16 := by omega
          go_wp2_with fail
          go_ret
          refine ⟨_, rfl, ?_, hx⟩
          have e : cellsUpto ps 16 = [] := List.eq_nil_of_length_eq_zero (by rw [cellsUpto_length, HP.out])
          rw [e]
          exact InM.nil _ _
    · have hn0 : (0 : Int) < n := by omega
      go_enter Try.func36, Try.ntmps36
      go_wp2_with fail
      go_loopw [4] (fun i wr => ∃ m : Nat, m ≤ 16 ∧ i = .int .i64 m ∧ Ext w wr ∧ Blk wr w.heap.size 22 (masks (cellsUpto ps m))) (fun i _ => 16 - (intOf i).toNat)
      case atStart => exact ⟨0, by omega, rfl, hx0, by rw [HR0.out]; exact B0⟩
      case round =>
        clear hx0 B0 HR0
        obtain ⟨m, hm, rfl, hx, hB⟩ := hrel
        by_cases hlt : m < 16
        · have m1 : (m : Int) < 16 := by omega
          have m2 : (0 : Int) ≤ m := by omega
          have hgU : w.heap.size ≠ wr.heap.size := fun e => by have := hB.lt; omega
          have hU := Blk.new wr 4 (bools (List.replicate n false))
          have cU : (wr.alloc (.cells (bools (List.replicate n false)) 4)).cell? ⟨wr.heap.size, 0, none⟩ = some (.bool false) := by
            rw [hU.cell, bools_at _ 0 (by simpa using h0)]
            simp
          have fU := hU.frozen 0
          have hsl := HSL.out m
          have hout := HSS.out m
          generalize hO : cellsUpto ps m = out at *
          have HOUT := Lib.hid hout
          have HLO := Lib.hid hsl
          clear hout hsl hO
          go_wp2_with fail
          have hU2 := Blk.new wr 4 ((bools (List.replicate n false)).setIfInBounds 0 (.bool true))
          have hO2 := hB.alloc (.cells ((bools (List.replicate n false)).setIfInBounds 0 (.bool true)) 4)
          have hx2 := hx.alloc (.cells ((bools (List.replicate n false)).setIfInBounds 0 (.bool true)) 4)
          have hge := hx.size
          clear hU hB cU fU hx
          generalize wr.alloc (.cells ((bools (List.replicate n false)).setIfInBounds 0 (.bool true)) 4) = w1 at *
          rw [bools_set] at hU2
          generalize wr.heap.size = gU at *
          go_loopw [6] (fun i wr => ∃ k : Nat, k ≤ n ∧ i = .int .i64 k ∧ Ext w wr ∧ Blk wr w.heap.size 22 (masks (cellUpto ps m out k)) ∧ Blk wr gU 4 (bools (uupto ps m k))) (fun i _ => n - (intOf i).toNat)
          case atStart => exact ⟨0, by omega, rfl, hx2, hO2, by rw [show uupto ps m 0 = (List.replicate n false).set 0 true by simp [uupto, rstart, HP.out]]; exact hU2⟩
          case round =>
            clear hx2 hU2 hO2 w1
            obtain ⟨k, hk, rfl, hx, hB, hU⟩ := hrel
            by_cases hltk : k < n
            · have hul := HUL.out m k
              have hcl := HCL.out m out k
              rw [HLO.out] at hcl
              have hkp : k < ps.length := by rw [HP.out]; exact hltk
              have ck := (hU.cell k).trans (bools_at _ k (by omega))
              have k1 : (0 : Int) ≤ k := by omega
              have k2 : (k : Int) < n := by omega
              have hgd : (uupto ps m k).getD k false = (uupto ps m k)[k]'(by omega) := by rw [List.getD_eq_getElem?_getD, List.getElem?_eq_getElem (by omega)]; rfl
              have hs := HUS.out m k
              have hc := HCS.out m out k
              unfold ustep at hs
              unfold sstep at hc
              rw [hgd] at hs hc
              cases hv : (uupto ps m k)[k]'(by omega) with
              | false =>
                rw [hv] at hs hc ck
                simp only [Bool.false_eq_true, if_false] at hs hc
                have o1 := (hB.cell k).trans (masks_at _ k (by omega))
                have e2 : (cellUpto ps m out k).getD k 0 = (cellUpto ps m out k)[k]'(by omega) := by rw [List.getD_eq_getElem?_getD, List.getElem?_eq_getElem (by omega)]; rfl
                rw [← e2] at o1
                have f1 := hB.frozen k
                have hw := pow16_wrap m hlt
                generalize (cellUpto ps m out k).getD k 0 = oc at *
                generalize ((2 ^ m : Nat) : Int) = pw at *
                have HS := Lib.hid hs
                have HC := Lib.hid hc
                clear hs hc hgd hv e2
                go_wp2_with fail
                go_region
                go_wp2_with fail
                go_roundw
                case rel =>
                  refine ⟨k + 1, by omega, by go_num, (Ext.set hx (Nat.le_refl _) _).drew, ?_, ?_⟩
                  · rw [HC.out, ← masks_set]; exact (hB.set_ k _).drew
                  · rw [HS.out]; exact (hU.far (p := ⟨w.heap.size, k, none⟩) (Ne.symm hgU) _).drew
                case measure => simp [intOf]; omega
              | true =>
                rw [hv] at hs hc ck
                simp only [if_true] at hs hc
                have hMr := HM.out.ext hx
                obtain ⟨b0, o0, rfl, _⟩ := prog_some hMr (by omega)
                obtain ⟨q0, q1, q2, q3⟩ := prog_cells hMr hkp
                have hget : ps.getD k zeroI = ps[k] := by rw [List.getD_eq_getElem?_getD, List.getElem?_eq_getElem hkp]; rfl
                rw [hget] at hs
                have HI := Lib.hid (HOK.out _ (List.getElem_mem hkp))
                have w32 : IntKind.u32.wrap (m : Int) = m := IntWalk.u32_in _ (by omega)
                generalize ps[k] = P at *
                obtain ⟨co, jt, jf, kk⟩ := P
                dsimp only at q0 q1 q2 q3
                unfold skipC at hs
                dsimp only at hs
                have HN := Lib.hid (HBD.out (k : Int))
                have HC := Lib.hid (HNX.out (k : Int) wr hMr)
                have hl0 := HUL.out m k
                have hnl := nextL_len ps (k : Int)
                have HCC := Lib.hid hc
                clear hc hgd hv hget hMr
                generalize nextL ps (k : Int) = ns at *
                generalize uupto ps m k = l at *
                by_cases hK : kk = m
                · subst hK
                  by_cases hcc : co = 2 ∨ co = 3
                  · have e : ((co == 2 || co == 3) && ((m : Int) == m)) = true := by simpa using hcc
                    rw [e] at hs
                    simp only [if_true] at hs
                    have HS := Lib.hid hs
                    clear hs e HN HC
                    rcases hcc with rfl | rfl
                    all_goals
                      go_wp2_with fail
                      go_roundw
                      case rel => exact ⟨k + 1, by omega, by go_num, hx, by rw [HCC.out]; exact hB, by rw [HS.out]; exact hU⟩
                      case measure => simp [intOf]; omega
                  · have e2 : (co == 2) = false := by simp; omega
                    have e3 : (co == 3) = false := by simp; omega
                    have e : ((co == 2 || co == 3) && ((m : Int) == m)) = false := by simp [e2, e3]
                    rw [e] at hs
                    simp only [Bool.false_eq_true, if_false] at hs
                    have HS := Lib.hid hs
                    clear hs e hcc
                    go_wp2_with fail
                    refine (HC.out).mono ?_
                    rintro e w1 ⟨Q, cQ, rfl, ho, hx1⟩
                    have hU1 := hU.ext hx1
                    have hB1 := hB.ext hx1
                    have HL0 := Lib.hid hl0
                    have hge2 := hx.size
                    clear ck hU hl0 HC q0 q1 q2 q3
                    go_wp2_with fail
                    go_loopw [8] (fun i wr' => ∃ j : Nat, j ≤ ns.length ∧ i = .int .i64 j ∧ Ext w wr' ∧ Blk wr' w.heap.size 22 (masks (cellUpto ps m out k)) ∧ Blk wr' gU 4 (bools (setAll l (ns.take j))) ∧ wr'.ownsRow wr.heap.size 3 1 (.slice Q ns.length cQ) ns.length (nums .i64 ns)) (fun i _ => ns.length - (intOf i).toNat)
                    case atStart => exact ⟨0, by omega, rfl, hx.trans hx1, hB1, hU1, ho⟩
                    case round =>
                      clear hx hx1 hU1 hB hB1 ho
                      obtain ⟨j, hj, rfl, hx, hB, hU, ho⟩ := hrel
                      by_cases hjl : j < ns.length
                      · obtain ⟨gp, cap, hP, _⟩ := ho.form (by omega)
                        simp only [Value.slice.injEq] at hP
                        obtain ⟨rfl, -, rfl⟩ := hP
                        have hc := (own_inM ho).cell (nums_at hjl)
                        obtain ⟨e1, e2, e3⟩ := HN.out ns[j] (List.getElem_mem hjl)
                        have HT := Lib.hid (setAll_take l ns j hjl)
                        have hsl : (setAll l (ns.take j)).length = n := by rw [setAll_length, HL0.out]
                        obtain ⟨z, hz⟩ : ∃ z : Nat, ns[j] = (z : Int) := ⟨ns[j].toNat, by omega⟩
                        rw [hz] at hc e1 e2 e3 HT
                        rw [Int.toNat_natCast] at HT
                        have hzl : z < (setAll l (ns.take j)).length := by rw [hsl]; have := HP.out; omega
                        obtain ⟨bz, cz⟩ : ∃ b, wr.cell? ⟨gU, z, none⟩ = some (.bool b) := ⟨_, (hU.cell z).trans (bools_at _ z hzl)⟩
                        have fz := hU.frozen z
                        have z2 : (z : Int) < n := by have := HP.out; omega
                        have HU2 := Lib.hid (hU.set_ z (.bool true))
                        have HB2 := Lib.hid (hB.far (p := ⟨gU, z, none⟩) hgU (.bool true))
                        have HX2 := Lib.hid (Ext.set hx (p := ⟨gU, z, none⟩) hge (.bool true))
                        have HO2 := Lib.hid (own_apart_blk ho hU (by decide) (grown_set _ gU z (.bool true)))
                        have j1 : (0 : Int) ≤ j := by omega
                        have j2 : (j : Int) < ns.length := by omega
                        simp only [Nat.zero_add] at hc
                        clear hz hB hU hx ho hsl hzl
                        go_wp2_with fail
                        go_roundw
                        case rel => exact ⟨j + 1, by omega, by go_num, HX2.out, HB2.out, by rw [HT.out, ← bools_set]; exact HU2.out, HO2.out⟩
                        case measure => simp [intOf]; omega
                      · obtain rfl : j = ns.length := by omega
                        rw [List.take_length] at hU
                        go_wp2_with fail
                        go_roundw
                        case rel => exact ⟨k + 1, by omega, by go_num, hx, by rw [HCC.out]; exact hB, by rw [HS.out]; exact hU⟩
                        case measure => simp [intOf]; omega
                · have eK : (kk == (m : Int)) = false := by simpa using hK
                  have e : ((co == 2 || co == 3) && (kk == (m : Int))) = false := by simp [eK]
                  rw [e] at hs
                  simp only [Bool.false_eq_true, if_false] at hs
                  have HS := Lib.hid hs
                  clear hs e
                  by_cases h2 : co = 2
                  · subst h2
                    go_wp2_with fail
                    refine (HC.out).mono ?_
                    rintro e w1 ⟨Q, cQ, rfl, ho, hx1⟩
                    have hU1 := hU.ext hx1
                    have hB1 := hB.ext hx1
                    have HL0 := Lib.hid hl0
                    have hge2 := hx.size
                    clear ck hU hl0 HC q0 q1 q2 q3
                    go_wp2_with fail
                    go_loopw [8] (fun i wr' => ∃ j : Nat, j ≤ ns.length ∧ i = .int .i64 j ∧ Ext w wr' ∧ Blk wr' w.heap.size 22 (masks (cellUpto ps m out k)) ∧ Blk wr' gU 4 (bools (setAll l (ns.take j))) ∧ wr'.ownsRow wr.heap.size 3 1 (.slice Q ns.length cQ) ns.length (nums .i64 ns)) (fun i _ => ns.length - (intOf i).toNat)
                    case atStart => exact ⟨0, by omega, rfl, hx.trans hx1, hB1, hU1, ho⟩
                    case round =>
                      clear hx hx1 hU1 hB hB1 ho
                      obtain ⟨j, hj, rfl, hx, hB, hU, ho⟩ := hrel
                      by_cases hjl : j < ns.length
                      · obtain ⟨gp, cap, hP, _⟩ := ho.form (by omega)
                        simp only [Value.slice.injEq] at hP
                        obtain ⟨rfl, -, rfl⟩ := hP
                        have hc := (own_inM ho).cell (nums_at hjl)
                        obtain ⟨e1, e2, e3⟩ := HN.out ns[j] (List.getElem_mem hjl)
                        have HT := Lib.hid (setAll_take l ns j hjl)
                        have hsl : (setAll l (ns.take j)).length = n := by rw [setAll_length, HL0.out]
                        obtain ⟨z, hz⟩ : ∃ z : Nat, ns[j] = (z : Int) := ⟨ns[j].toNat, by omega⟩
                        rw [hz] at hc e1 e2 e3 HT
                        rw [Int.toNat_natCast] at HT
                        have hzl : z < (setAll l (ns.take j)).length := by rw [hsl]; have := HP.out; omega
                        obtain ⟨bz, cz⟩ : ∃ b, wr.cell? ⟨gU, z, none⟩ = some (.bool b) := ⟨_, (hU.cell z).trans (bools_at _ z hzl)⟩
                        have fz := hU.frozen z
                        have z2 : (z : Int) < n := by have := HP.out; omega
                        have HU2 := Lib.hid (hU.set_ z (.bool true))
                        have HB2 := Lib.hid (hB.far (p := ⟨gU, z, none⟩) hgU (.bool true))
                        have HX2 := Lib.hid (Ext.set hx (p := ⟨gU, z, none⟩) hge (.bool true))
                        have HO2 := Lib.hid (own_apart_blk ho hU (by decide) (grown_set _ gU z (.bool true)))
                        have j1 : (0 : Int) ≤ j := by omega
                        have j2 : (j : Int) < ns.length := by omega
                        simp only [Nat.zero_add] at hc
                        clear hz hB hU hx ho hsl hzl
                        go_wp2_with fail
                        go_roundw
                        case rel => exact ⟨j + 1, by omega, by go_num, HX2.out, HB2.out, by rw [HT.out, ← bools_set]; exact HU2.out, HO2.out⟩
                        case measure => simp [intOf]; omega
                      · obtain rfl : j = ns.length := by omega
                        rw [List.take_length] at hU
                        go_wp2_with fail
                        go_roundw
                        case rel => exact ⟨k + 1, by omega, by go_num, hx, by rw [HCC.out]; exact hB, by rw [HS.out]; exact hU⟩
                        case measure => simp [intOf]; omega
                  · by_cases h3 : co = 3
                    · subst h3
                      go_wp2_with fail
                      refine (HC.out).mono ?_
                      rintro e w1 ⟨Q, cQ, rfl, ho, hx1⟩
                      have hU1 := hU.ext hx1
                      have hB1 := hB.ext hx1
                      have HL0 := Lib.hid hl0
                      have hge2 := hx.size
                      clear ck hU hl0 HC q0 q1 q2 q3
                      go_wp2_with fail
                      go_loopw [8] (fun i wr' => ∃ j : Nat, j ≤ ns.length ∧ i = .int .i64 j ∧ Ext w wr' ∧ Blk wr' w.heap.size 22 (masks (cellUpto ps m out k)) ∧ Blk wr' gU 4 (bools (setAll l (ns.take j))) ∧ wr'.ownsRow wr.heap.size 3 1 (.slice Q ns.length cQ) ns.length (nums .i64 ns)) (fun i _ => ns.length - (intOf i).toNat)
                      case atStart => exact ⟨0, by omega, rfl, hx.trans hx1, hB1, hU1, ho⟩
                      case round =>
                        clear hx hx1 hU1 hB hB1 ho
                        obtain ⟨j, hj, rfl, hx, hB, hU, ho⟩ := hrel
                        by_cases hjl : j < ns.length
                        · obtain ⟨gp, cap, hP, _⟩ := ho.form (by omega)
                          simp only [Value.slice.injEq] at hP
                          obtain ⟨rfl, -, rfl⟩ := hP
                          have hc := (own_inM ho).cell (nums_at hjl)
                          obtain ⟨e1, e2, e3⟩ := HN.out ns[j] (List.getElem_mem hjl)
                          have HT := Lib.hid (setAll_take l ns j hjl)
                          have hsl : (setAll l (ns.take j)).length = n := by rw [setAll_length, HL0.out]
                          obtain ⟨z, hz⟩ : ∃ z : Nat, ns[j] = (z : Int) := ⟨ns[j].toNat, by omega⟩
                          rw [hz] at hc e1 e2 e3 HT
                          rw [Int.toNat_natCast] at HT
                          have hzl : z < (setAll l (ns.take j)).length := by rw [hsl]; have := HP.out; omega
                          obtain ⟨bz, cz⟩ : ∃ b, wr.cell? ⟨gU, z, none⟩ = some (.bool b) := ⟨_, (hU.cell z).trans (bools_at _ z hzl)⟩
                          have fz := hU.frozen z
                          have z2 : (z : Int) < n := by have := HP.out; omega
                          have HU2 := Lib.hid (hU.set_ z (.bool true))
                          have HB2 := Lib.hid (hB.far (p := ⟨gU, z, none⟩) hgU (.bool true))
                          have HX2 := Lib.hid (Ext.set hx (p := ⟨gU, z, none⟩) hge (.bool true))
                          have HO2 := Lib.hid (own_apart_blk ho hU (by decide) (grown_set _ gU z (.bool true)))
                          have j1 : (0 : Int) ≤ j := by omega
                          have j2 : (j : Int) < ns.length := by omega
                          simp only [Nat.zero_add] at hc
                          clear hz hB hU hx ho hsl hzl
                          go_wp2_with fail
                          go_roundw
                          case rel => exact ⟨j + 1, by omega, by go_num, HX2.out, HB2.out, by rw [HT.out, ← bools_set]; exact HU2.out, HO2.out⟩
                          case measure => simp [intOf]; omega
                        · obtain rfl : j = ns.length := by omega
                          rw [List.take_length] at hU
                          go_wp2_with fail
                          go_roundw
                          case rel => exact ⟨k + 1, by omega, by go_num, hx, by rw [HCC.out]; exact hB, by rw [HS.out]; exact hU⟩
                          case measure => simp [intOf]; omega
                    · have e2 : (co == 2) = false := by simpa using h2
                      have e3 : (co == 3) = false := by simpa using h3
                      clear h2 h3
                      go_wp2_with fail
                      refine (HC.out).mono ?_
                      rintro e w1 ⟨Q, cQ, rfl, ho, hx1⟩
                      have hU1 := hU.ext hx1
                      have hB1 := hB.ext hx1
                      have HL0 := Lib.hid hl0
                      have hge2 := hx.size
                      clear ck hU hl0 HC q0 q1 q2 q3
                      go_wp2_with fail
                      go_loopw [8] (fun i wr' => ∃ j : Nat, j ≤ ns.length ∧ i = .int .i64 j ∧ Ext w wr' ∧ Blk wr' w.heap.size 22 (masks (cellUpto ps m out k)) ∧ Blk wr' gU 4 (bools (setAll l (ns.take j))) ∧ wr'.ownsRow wr.heap.size 3 1 (.slice Q ns.length cQ) ns.length (nums .i64 ns)) (fun i _ => ns.length - (intOf i).toNat)
                      case atStart => exact ⟨0, by omega, rfl, hx.trans hx1, hB1, hU1, ho⟩
                      case round =>
                        clear hx hx1 hU1 hB hB1 ho
                        obtain ⟨j, hj, rfl, hx, hB, hU, ho⟩ := hrel
                        by_cases hjl : j < ns.length
                        · obtain ⟨gp, cap, hP, _⟩ := ho.form (by omega)
                          simp only [Value.slice.injEq] at hP
                          obtain ⟨rfl, -, rfl⟩ := hP
                          have hc := (own_inM ho).cell (nums_at hjl)
                          obtain ⟨e1, e2, e3⟩ := HN.out ns[j] (List.getElem_mem hjl)
                          have HT := Lib.hid (setAll_take l ns j hjl)
                          have hsl : (setAll l (ns.take j)).length = n := by rw [setAll_length, HL0.out]
                          obtain ⟨z, hz⟩ : ∃ z : Nat, ns[j] = (z : Int) := ⟨ns[j].toNat, by omega⟩
                          rw [hz] at hc e1 e2 e3 HT
                          rw [Int.toNat_natCast] at HT
                          have hzl : z < (setAll l (ns.take j)).length := by rw [hsl]; have := HP.out; omega
                          obtain ⟨bz, cz⟩ : ∃ b, wr.cell? ⟨gU, z, none⟩ = some (.bool b) := ⟨_, (hU.cell z).trans (bools_at _ z hzl)⟩
                          have fz := hU.frozen z
                          have z2 : (z : Int) < n := by have := HP.out; omega
                          have HU2 := Lib.hid (hU.set_ z (.bool true))
                          have HB2 := Lib.hid (hB.far (p := ⟨gU, z, none⟩) hgU (.bool true))
                          have HX2 := Lib.hid (Ext.set hx (p := ⟨gU, z, none⟩) hge (.bool true))
                          have HO2 := Lib.hid (own_apart_blk ho hU (by decide) (grown_set _ gU z (.bool true)))
                          have j1 : (0 : Int) ≤ j := by omega
                          have j2 : (j : Int) < ns.length := by omega
                          simp only [Nat.zero_add] at hc
                          clear hz hB hU hx ho hsl hzl
                          go_wp2_with fail
                          go_roundw
                          case rel => exact ⟨j + 1, by omega, by go_num, HX2.out, HB2.out, by rw [HT.out, ← bools_set]; exact HU2.out, HO2.out⟩
                          case measure => simp [intOf]; omega
                        · obtain rfl : j = ns.length := by omega
                          rw [List.take_length] at hU
                          go_wp2_with fail
                          go_roundw
                          case rel => exact ⟨k + 1, by omega, by go_num, hx, by rw [HCC.out]; exact hB, by rw [HS.out]; exact hU⟩
                          case measure => simp [intOf]; omega
            · obtain rfl : k = n := by omega
              go_wp2_with fail
              go_roundw
              case rel => exact ⟨m + 1, by omega, by go_num, hx, by rw [HOUT.out, HP.out]; exact hB⟩
              case measure => simp [intOf]; omega
        · have m1 : ¬ (m : Int) < 16 := by omega
          obtain rfl : m = 16 := by omega
          go_wp2_with fail
          go_ret
          exact ⟨_, rfl, InM.ofBlk hB (by simp [masks, nums]), hx⟩
end Go.Proofs.Ytplpffcolcjboaa
