import Derived.Test.YtjlhfmedaandeaaOref2
import Derived.Test.YtjlhfmedaandeaaBase
/- vestibuleref26: Thread. -/
namespace Go.Proofs.Ytjlhfmedaandeaa
open Go.RowKit Go.ChangeShapes Go.WideShapes
set_option linter.unusedVariables false
set_option linter.unusedSimpArgs false

theorem sc_splice (more : List Value) (s' : Sy) : ∀ (qs : List Sy) (k : Nat), k < qs.length → splice (sc qs ++ more) (k * 4) s'.cells.toList = sc (qs.set k s') ++ more
  | i :: qs, 0, _ => by
    unfold splice
    rw [sc_cons, Nat.zero_mul, List.take_zero, List.nil_append, Nat.zero_add, List.append_assoc, show s'.cells.toList.length = i.cells.toList.length from rfl, List.drop_left]
    rw [List.set_cons_zero, sc_cons, List.append_assoc]
  | i :: qs, k + 1, h => by
    have ih := sc_splice more s' qs k (by simpa using h)
    unfold splice at ih ⊢
    have e : (k + 1) * 4 = i.cells.toList.length + k * 4 := by simp [Sy.cells]; omega
    rw [sc_cons, List.append_assoc, e, List.take_length_add_append, Nat.add_assoc, List.drop_length_add_append, List.append_assoc, ih, List.set_cons_succ, sc_cons, List.append_assoc]
theorem blk_splice {w : World} {g : Nat} {T : TypeId} {qs : List Sy} {more : List Value} {k : Nat} {s' : Sy} (hk : k < qs.length) (h : Blk w g T (splice (sc qs ++ more) (k * 4) s'.cells.toList).toArray) : Blk w g T (sc (qs.set k s') ++ more).toArray := by
  rwa [sc_splice more s' qs k hk] at h
theorem thrT_set (out : List Sy) (j : Nat) (v : Sy) (t : Nat) (h : j ≠ t) : thrT (out.set j v) t = thrT out t := by
  have e : (out.set j v).getD t zeroS = out.getD t zeroS := by rw [getD_set_sy, if_neg (fun x => h x.1)]
  unfold thrT
  rw [Int.toNat_natCast, e]
set_option maxHeartbeats 4000000 in
set_option maxRecDepth 100000 in
theorem refThreadI (b o n c : Nat) (ps : List Sy) (w : World) (hp : ps.length = n) (hY : MayL ps) (hM : InM w (some ⟨b, o, none⟩) (sc ps)) :
    Calls Try.prog 29 #[.slice (some ⟨b, o, none⟩) n c] w fun e w' => ∃ g c' more, e = .returned (.slice (some ⟨g, 0, none⟩) n c') ∧ Blk w' g 32 (sc (threadL ps) ++ more).toArray ∧ w.heap.size ≤ g ∧ Ext w w' := by
  have n1 : 1 ≤ n := by have := hY.l1; omega
  have n2 : n ≤ 131072 := by have := hY.l2; omega
  have HC := Lib.hid (refCopyS (some ⟨b, o, none⟩) n c ps w hp (by omega) hM)
  have HM := Lib.hid hM
  have HP := Lib.hid hp
  have HY := Lib.hid hY
  have HUP := Lib.hid (fun k hk => thread_upto hY k hk)
  have HSN := Lib.hid (threadUp_snoc ps)
  have w1 : IntKind.i64.wrap ((n : Int) - 1) = (n : Int) - 1 := IntWalk.i64_in _ (by omega)
  clear hp hY hM
  go_enter Try.func29, Try.ntmps29
  go_wp2_with fail
  refine (HC.out).mono ?_
  rintro e w1 ⟨B, c', rfl, ho1, hx1⟩
  obtain ⟨g, more, rfl, hb1, hg⟩ := own_blk ho1 n1
  have HB1 := Lib.hid hb1
  clear ho1 hb1 HC
  go_wp2_with fail
  go_loopw [4] (fun it W => ∃ (k : Nat) (y : Int), k ≤ n ∧ y = (k : Int) - 1 ∧ it = .int .i64 y ∧ Ext w W ∧ Blk W g 32 (sc (threadUp ps ((List.range n).reverse.take (n - k))) ++ more).toArray) (fun it _ => (intOf it + 1).toNat)
  case atStart =>
    refine ⟨n, _, Nat.le_refl _, rfl, rfl, hx1, ?_⟩
    rw [Nat.sub_self, List.take_zero]
    exact HB1.out
  case round =>
    clear hx1 HB1
    obtain ⟨k, y, hk, hy0, rfl, hy, hB⟩ := hrel
    rcases k with _ | j
    · have hy' : y = -1 := by omega
      subst hy'
      rw [Nat.sub_zero, List.take_of_length_le (by simp)] at hB
      have HB := Lib.hid hB
      clear hy0 hB
      go_wp2_with fail
      go_ret
      exact ⟨g, c', more, rfl, by unfold threadL; rw [HP.out]; exact HB.out, hg, hy⟩
    · have hy' : y = j := by omega
      subst hy'
      have hjn : j < n := by omega
      have hjp : j < ps.length := by rw [HP.out]; exact hjn
      have hgd : ps.getD j zeroS = ps[j] := by simp [List.getD_eq_getElem?_getD, hjp]
      have hK := kind_of (HY.out.one j hjp)
      obtain ⟨hql, hqlo, hqhi⟩ := HUP.out (n - (j + 1)) (by rw [HP.out]; omega)
      have hst := (congrArg (threadUp ps) (back_step2 n j hjn)).trans (HSN.out _ j)
      unfold thrStep at hst
      rw [HP.out] at hK hql hqlo
      have hqj := hqlo j (by omega)
      rw [hgd] at hK hst hqj
      have PC := Lib.hid (fun W' (h : Ext w W') => sym_cells (HM.out.ext h) hjp)
      have HJ := Lib.hid (fun W' => refJump26 ps[j] W')
      have HAs := Lib.hid (fun W' => refAsks26 ps[j] W')
      generalize hqs : threadUp ps ((List.range n).reverse.take (n - (j + 1))) = qs at *
      generalize hqs2 : threadUp ps ((List.range n).reverse.take (n - j)) = qs2 at *
      have HQ2 := Lib.hid hqs2
      have hkq : j < qs.length := by omega
      have hqk : qs[j] = ps[j] := by
        rw [← hqj]
        simp [List.getD_eq_getElem?_getD, hkq]
      have hqln : qs.length = n := hql
      clear hqlo hqhi hqs hqs2 hgd hql hqj hy0
      generalize ps[j] = s at *
      clear hjp
      have k1 : (0 : Int) ≤ j := by omega
      have k2 : (j : Int) < n := by omega
      have k3 : (j : Int) ≤ 131072 := by omega
      have w2 : IntKind.i64.wrap ((j : Int) - 1) = (j : Int) - 1 := IntWalk.i64_in _ (by omega)
      have HTR := Lib.hid (fun (out : List Sy) (ho : out.length = n) (t : Nat) (ht : t < n) W hW => refThrough g 0 n c' out t ht ho W hW)
      obtain ⟨co, kk, th, el⟩ := s
      unfold Sy.val Sy.cells at HJ HAs
      unfold jumpS at HJ
      dsimp only at *
      obtain ⟨q0, q1, q2, q3⟩ := PC.out _ hy
      by_cases hA : asksC co = true
      · have hq := asks_code.1 hA
        obtain ⟨⟨t, rfl, hjt, ht⟩, ⟨u, rfl, hju, hu⟩⟩ : (∃ t : Nat, th = t ∧ j < t ∧ t < n) ∧ (∃ u : Nat, el = u ∧ j < u ∧ u < n) := by
          rcases hK with ⟨q, _, _, _⟩ | ⟨q, _, _⟩ | ⟨q, _, _⟩ | ⟨q, _, _, q1⟩ | ⟨q, q1, q2⟩
          · dsimp only at q; omega
          · dsimp only at q; omega
          · dsimp only at q; omega
          · dsimp only at q; omega
          · dsimp only at q1 q2; exact ⟨⟨th.toNat, by omega, by omega, by omega⟩, ⟨el.toNat, by omega, by omega, by omega⟩⟩
        have hs2 : qs2 = qs.set j (if thrT qs t = thrT qs u then ⟨5, 0, thrT qs t, 0⟩ else ⟨co, kk, thrT qs t, thrT qs u⟩) := by
          rw [hst]
          unfold thr1
          rw [if_pos hA]
        have HLT := Lib.hid (fun W hW => HTR.out qs hqln t ht W hW)
        have HLU := Lib.hid (fun x W hW => HTR.out (qs.set j ⟨co, kk, x, (u : Int)⟩) (by rw [List.length_set]; exact hqln) u hu W hW)
        have htu := fun x => thrT_set qs j ⟨co, kk, x, (u : Int)⟩ u (by omega)
        simp only [htu] at HLU
        have hj : (co == 5 || asksC co) = true := by rw [hA]; simp
        rw [hj] at HJ
        rw [hA] at HAs
        generalize thrT qs t = x at *
        generalize thrT qs u = y at *
        have HS2 := Lib.hid hs2
        clear hK hst hA hq hj htu hs2
        go_wp2_with fail
        refine (HJ.out _).mono ?_
        rintro e w9 ⟨rfl, hx9⟩
        have hE9 := (hy).trans hx9
        clear q0 q1 q2 q3
        obtain ⟨q0, q1, q2, q3⟩ := PC.out _ hE9
        go_wp2_with fail
        refine (HLT.out _ (InM.ofBlk (hB.ext hx9) rfl).prefix_).mono ?_
        rintro e w10 ⟨rfl, hx10⟩
        have hE10 := (hE9).trans hx10
        clear q0 q1 q2 q3
        obtain ⟨q0, q1, q2, q3⟩ := PC.out _ hE10
        have hB10 := hB.ext (hx9.trans hx10)
        have HB11 := Lib.hid (blk_th hB10 hkq hqk x)
        have hE11 := hE10.set (p := ⟨g, j * 4 + 2, none⟩) hg (.int .i64 x)
        have c10 := (blk_sym hB10 hkq hqk).2.2.1
        have f10 := hB10.frozen (j * 4 + 2)
        clear q0 q1 q2 q3
        obtain ⟨q0, q1, q2, q3⟩ := PC.out _ hE11
        have E11 := Lib.hid hE11
        clear hE11 hB10
        go_wp2_with fail
        clear c10 f10
        refine (HAs.out _).mono ?_
        rintro e w12 ⟨rfl, hx12⟩
        have hE12 := E11.out.trans hx12
        clear q0 q1 q2 q3
        obtain ⟨q0, q1, q2, q3⟩ := PC.out _ hE12
        go_wp2_with fail
        refine (HLU.out x _ (InM.ofBlk (HB11.out.ext hx12) rfl).prefix_).mono ?_
        rintro e w13 ⟨rfl, hx13⟩
        have hE13 := (hE12).trans hx13
        clear q0 q1 q2 q3
        obtain ⟨q0, q1, q2, q3⟩ := PC.out _ hE13
        have hB13 := HB11.out.ext (hx12.trans hx13)
        have hkq2 : j < (qs.set j ⟨co, kk, x, (u : Int)⟩).length := by rw [List.length_set]; exact hkq
        have hqk2 : (qs.set j ⟨co, kk, x, (u : Int)⟩)[j] = ⟨co, kk, x, (u : Int)⟩ := List.getElem_set_self ..
        have hB14 := blk_el hB13 hkq2 hqk2 y
        have hE14 := hE13.set (p := ⟨g, j * 4 + 3, none⟩) hg (.int .i64 y)
        have c13 := (blk_sym hB13 hkq2 hqk2).2.2.2
        have f13 := hB13.frozen (j * 4 + 3)
        rw [List.set_set] at hB14
        have hkq3 : j < (qs.set j ⟨co, kk, x, y⟩).length := by rw [List.length_set]; exact hkq
        have hqk3 : (qs.set j ⟨co, kk, x, y⟩)[j] = ⟨co, kk, x, y⟩ := List.getElem_set_self ..
        obtain ⟨s0, s1, s2, s3⟩ := blk_sym hB14 hkq3 hqk3
        have B14 := Lib.hid hB14
        have E14 := Lib.hid hE14
        clear hB13 hB14 hE14 hqk2 hqk3 q0 q1 q2 q3
        rcases hxy : (x == y) with _ | _
        · have hs3 := Lib.hid (HS2.out.trans (by rw [if_neg (by simpa using hxy)]))
          go_wp2_with fail
          go_quiet (fail)
          go_wp2_with fail
          go_roundw
          case rel => exact ⟨j, _, by omega, rfl, rfl, E14.out.drewN _, by rw [HQ2.out, hs3.out]; exact B14.out.drewN _⟩
          case measure => simp [intOf]
        · have hs3 := Lib.hid (HS2.out.trans (by rw [if_pos (by simpa using hxy)]))
          go_wp2_with fail
          go_quiet (fail)
          have hfit : j * 4 + 4 ≤ (sc (qs.set j ⟨co, kk, x, y⟩) ++ more).length := by rw [List.length_append, sc_length]; omega
          go_wp2_with (refine wpList_store_row rfl 32 (.tmp 65) (.tmp 64) rfl g (j * 4) 32 (sc (qs.set j ⟨co, kk, x, y⟩) ++ more) #[.int .u16 5, .int .u32 0, .int .i64 x, .int .i64 0] rfl rfl (B14.out.drewN _) hfit (by kernel_rfl) (by simp [Value.oneCell']) ?_; intro w15 hb15 hg15)
          have hb16 := blk_splice (s' := ⟨5, 0, x, 0⟩) hkq3 hb15
          rw [List.set_set, ← hs3.out] at hb16
          have B16 := Lib.hid hb16
          have E16 := Lib.hid ((E14.out.drewN _).grown hg15 (fun r e => by injection e with e; omega))
          clear hb15 hb16 hg15
          go_roundw
          case rel => exact ⟨j, _, by omega, rfl, rfl, E16.out, by rw [HQ2.out]; exact B16.out⟩
          case measure => simp [intOf]
      · have hA' : asksC co = false := by simpa using hA
        by_cases h5 : co = 5
        · subst h5
          obtain ⟨t, rfl, hjt, ht⟩ : ∃ t : Nat, th = t ∧ j < t ∧ t < n := by
            rcases hK with ⟨q, _, _, _⟩ | ⟨q, _, _⟩ | ⟨q, _, _⟩ | ⟨q, _, _, q1⟩ | ⟨q, q1, q2⟩
            · dsimp only at q; omega
            · dsimp only at q; omega
            · dsimp only at q; omega
            · dsimp only at q1; exact ⟨th.toNat, by omega, by omega, by omega⟩
            · dsimp only at q; omega
          have hs2 := Lib.hid (show qs2 = qs.set j ⟨5, kk, thrT qs t, el⟩ from by rw [hst]; unfold thr1; rw [if_neg hA, if_pos rfl])
          have HLT := Lib.hid (fun W hW => HTR.out qs hqln t ht W hW)
          have hj : ((5 : Int) == 5 || asksC 5) = true := rfl
          rw [hj] at HJ
          rw [hA'] at HAs
          generalize thrT qs t = x at *
          clear hK hst hA hA' hj
          go_wp2_with fail
          refine (HJ.out _).mono ?_
          rintro e w9 ⟨rfl, hx9⟩
          have hE9 := (hy).trans hx9
          clear q0 q1 q2 q3
          obtain ⟨q0, q1, q2, q3⟩ := PC.out _ hE9
          go_wp2_with fail
          refine (HLT.out _ (InM.ofBlk (hB.ext hx9) rfl).prefix_).mono ?_
          rintro e w10 ⟨rfl, hx10⟩
          have hE10 := (hE9).trans hx10
          clear q0 q1 q2 q3
          obtain ⟨q0, q1, q2, q3⟩ := PC.out _ hE10
          have hB10 := hB.ext (hx9.trans hx10)
          have HB11 := Lib.hid (blk_th hB10 hkq hqk x)
          have hE11 := hE10.set (p := ⟨g, j * 4 + 2, none⟩) hg (.int .i64 x)
          have c10 := (blk_sym hB10 hkq hqk).2.2.1
          have f10 := hB10.frozen (j * 4 + 2)
          clear q0 q1 q2 q3
          obtain ⟨q0, q1, q2, q3⟩ := PC.out _ hE11
          have E11 := Lib.hid hE11
          clear hE11 hB10
          go_wp2_with fail
          clear c10 f10
          refine (HAs.out _).mono ?_
          rintro e w12 ⟨rfl, hx12⟩
          have hE12 := E11.out.trans hx12
          have B12 := Lib.hid (HB11.out.ext hx12)
          clear q0 q1 q2 q3
          go_wp2_with fail
          go_roundw
          case rel => exact ⟨j, _, by omega, rfl, rfl, hE12, by rw [HQ2.out, hs2.out]; exact B12.out⟩
          case measure => simp [intOf]
        · have hno : co = 6 ∨ co = 32 ∨ co = 84 := by
            rcases hK with ⟨q, _, _, _⟩ | ⟨q, _, _⟩ | ⟨q, _, _⟩ | ⟨q, _, _, q1⟩ | ⟨q, q1, q2⟩
            · exact .inr (.inl q)
            · exact .inr (.inr q)
            · exact .inl q
            · exact absurd q h5
            · exact absurd (asks_code.2 q) hA
          have hs2 := Lib.hid (show qs2 = qs from by rw [hst, thr1_ret (s := ⟨co, kk, th, el⟩) hno, ← hqk, List.set_getElem_self])
          have hj : (co == 5 || asksC co) = false := by rw [hA']; simpa using h5
          rw [hj] at HJ
          rw [hA'] at HAs
          clear hK hst hA hA' hj h5 hno
          go_wp2_with fail
          refine (HJ.out _).mono ?_
          rintro e w9 ⟨rfl, hx9⟩
          have hE9 := (hy).trans hx9
          clear q0 q1 q2 q3
          obtain ⟨q0, q1, q2, q3⟩ := PC.out _ hE9
          go_wp2_with fail
          refine (HAs.out _).mono ?_
          rintro e w12 ⟨rfl, hx12⟩
          have hE12 := hE9.trans hx12
          have B12 := Lib.hid (hB.ext (hx9.trans hx12))
          clear q0 q1 q2 q3 hB
          go_wp2_with fail
          go_roundw
          case rel => exact ⟨j, _, by omega, rfl, rfl, hE12, by rw [HQ2.out, hs2.out]; exact B12.out⟩
          case measure => simp [intOf]
end Go.Proofs.Ytjlhfmedaandeaa
