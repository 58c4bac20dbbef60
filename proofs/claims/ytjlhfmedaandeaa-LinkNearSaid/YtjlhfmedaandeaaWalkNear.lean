import Derived.Test.YtjlhfmedaandeaaNearP
import Derived.Test.YtjlhfmedaandeaaAwake27
/- The law LinkNear, walked. -/
namespace Go.Proofs.Ytjlhfmedaandeaa
open Go.RowKit Go.ChangeShapes Go.WideShapes
set_option linter.unusedVariables false
set_option linter.unusedSimpArgs false

set_option maxHeartbeats 4000000 in
set_option maxRecDepth 100000 in
theorem linkNear_walk (A : Option Addr) (n c : Nat) (ps : List Sy) (hp : ps.length = n) (hm : n ≤ c ∧ c ≤ maxLen) (hok : ∀ i ∈ ps, i.ok) {w : World} (hM : InM w A (sc ps)) (_ : World) :
    Calls Try.prog 6 #[.slice A n c] w fun e w' => e = .returned (.bool true) ∧ Ext w w' := by
  have HAW := Lib.hid (fun W => awake27 W)
  have HM := Lib.hid hM
  by_cases big : 257 < n
  · have d1 : (257 : Int) < n := by omega
    clear hp hm hok hM
    go_enter Try.func6, Try.ntmps6
    go_wp2_with fail
    refine (HAW.out _).mono ?_
    rintro e w1 ⟨rfl, hx⟩
    go_wp2_with fail
    go_ret
    exact ⟨rfl, hx⟩
  have d1 : ¬ (257 : Int) < n := by omega
  have hn : n ≤ maxLen := by omega
  have HMay := Lib.hid (fun W hW => codeMay A n c ps W hp hok hn hW)
  cases hmay : mayL ps with
  | false =>
    rw [hmay] at HMay
    clear hp hm hok hM hn big hmay
    go_enter Try.func6, Try.ntmps6
    go_wp2_with fail
    refine (HAW.out _).mono ?_
    rintro e w1 ⟨rfl, hx⟩
    go_wp2_with fail
    refine (HMay.out _ (HM.out.ext hx)).mono ?_
    rintro e w3 ⟨rfl, hx3⟩
    go_wp2_with fail
    go_ret
    exact ⟨rfl, hx.trans hx3⟩
  | true =>
    have hY := mayL_of hmay
    have n1 := hY.l1
    obtain ⟨q1, q2, q3⟩ := near_all hY (by omega)
    have HFar := Lib.hid (fun W hW => linkFar A n c ps W hp hok hn hW)
    rw [show farT ps = 0 from by unfold farT; rw [if_pos hmay]; exact q2] at HFar
    have H := Lib.hid (fun W hW => linkYesI A n c ps W hp hok hW hmay (by omega))
    rw [q1, hp] at H
    rw [hmay] at HMay
    have hql : (lall ps).bk.reverse.length = n := by rw [List.length_reverse, q1, hp]
    rw [hp] at q3
    have HQ := Lib.hid q3
    have HP := Lib.hid hp
    have HY := Lib.hid hY
    have HO := Lib.hid hok
    obtain ⟨bA, oA, rfl, hbA⟩ := sym_some hM (by omega)
    generalize (lall ps).bk.reverse = qs at *
    have HQL := Lib.hid hql
    have f6 : ((n : Int) != n) = false := by simp
    rw [hp] at n1
    clear hp hm hok hM hn big hmay q1 q2 q3 hY hql hbA
    go_enter Try.func6, Try.ntmps6
    go_wp2_with fail
    refine (HAW.out _).mono ?_
    rintro e w1 ⟨rfl, hx⟩
    go_wp2_with fail
    refine (HMay.out _ (HM.out.ext hx)).mono ?_
    rintro e w3 ⟨rfl, hx3⟩
    replace hx := hx.trans hx3
    clear hx3
    go_wp2_with fail
    refine (H.out _ (HM.out.ext hx)).mono ?_
    rintro e w4 ⟨g, cv, more, rfl, hb4, hg4, hx4⟩
    have HB4 := Lib.hid ((InM.ofBlk hb4 rfl).prefix_)
    replace hx := hx.trans hx4
    clear hx4 hb4 hg4
    go_wp2_with fail
    refine (HFar.out _ (HM.out.ext hx)).mono ?_
    rintro e w5 ⟨rfl, hx5⟩
    have HP5 := Lib.hid (HB4.out.ext hx5)
    replace hx := hx.trans hx5
    clear hx5 HB4
    go_wp2_with fail
    go_loopw [5] (fun it W => ∃ k : Nat, k ≤ n ∧ it = .int .i64 k ∧ Ext w5 W) (fun it _ => n - (intOf it).toNat)
    case atStart => exact ⟨0, Nat.zero_le _, rfl, Ext.refl _⟩
    case round =>
      obtain ⟨k, hk, rfl, hy⟩ := hrel
      by_cases hlt : k < n
      · have hkp : k < ps.length := by rw [HP.out]; exact hlt
        have hkq : k < qs.length := by rw [HQL.out]; exact hlt
        have hK := kind_of (HY.out.one k hkp)
        obtain ⟨p0, p1, p2, p3⟩ := sym_cells (HM.out.ext (hx.trans hy)) hkp
        have hE0 := hy.alloc (.cells #[.int .u16 ps[k].code, .int .u32 ps[k].k, .int .i64 ps[k].th, .int .i64 ps[k].el] 32)
        obtain ⟨c0, c1, c2, c3⟩ := prog_cells (HP5.out.ext hE0) hkq
        have hnI := HQ.out k hlt
        have e1 : qs.getD k zeroI = qs[k] := by simp [List.getD_eq_getElem?_getD, hkq]
        rw [e1, getD_sy hkp] at hnI
        rw [hnI] at c0 c1 c2 c3
        rw [HP.out] at hK
        rw [getD_sy hkp] at hK
        have ho := HO.out _ (List.getElem_mem hkp)
        clear hnI e1
        generalize ps[k] = s at *
        clear hkp hkq
        obtain ⟨co, kk, th, el⟩ := s
        obtain ⟨⟨o1, o2⟩, ⟨o3, o4⟩, -, -⟩ := ho
        dsimp only at *
        have bs := Blk.new wr 32 #[.int .u16 co, .int .u32 kk, .int .i64 th, .int .i64 el]
        have s0 := (bs).cell 0
        have s1 := (bs).cell 1
        have s2 := (bs).cell 2
        have s3 := (bs).cell 3
        have k1 : (0 : Int) ≤ k := by omega
        have k2 : (k : Int) < n := by omega
        have k3 : (k : Int) ≤ 257 := by omega
        have w1a : IntKind.i64.wrap ((k : Int) + 1) = (k : Int) + 1 := IntWalk.i64_in _ (by omega)
        have z1 : ∀ x : Int, (x != x) = false := fun x => by simp
        have z2 := z1 co
        have z3 := z1 kk
        simp only [Nat.zero_add] at c0 c1 c2 c3
        clear bs
        by_cases h5 : co = 5
        · have b : (k : Int) < th ∧ th < n := by
            rcases hK with ⟨q, _, _, _⟩ | ⟨q, _, _⟩ | ⟨q, _, _⟩ | ⟨q, _, _, q1⟩ | ⟨q, q1, q2⟩
            · dsimp only at q; omega
            · dsimp only at q; omega
            · dsimp only at q; omega
            · exact q1
            · dsimp only at q; omega
          have hel : el = 0 := by
            rcases hK with ⟨q, _, _, _⟩ | ⟨q, _, _⟩ | ⟨q, _, _⟩ | ⟨q, _, q3, q1⟩ | ⟨q, q1, q2⟩
            · dsimp only at q; omega
            · dsimp only at q; omega
            · dsimp only at q; omega
            · exact q3
            · dsimp only at q; omega
          subst h5 hel
          have e : nearI k ⟨5, kk, th, 0⟩ = ⟨5, 0, 0, th - (k + 1)⟩ := rfl
          rw [e] at c0 c1 c2 c3
          dsimp only at c0 c1 c2 c3
          have w2 : IntKind.i64.wrap (th - ((k : Int) + 1)) = th - (k + 1) := IntWalk.i64_in _ (by omega)
          have w3 : IntKind.i64.wrap ((k : Int) + 1 + (th - ((k : Int) + 1))) = th := by rw [show (k : Int) + 1 + (th - ((k : Int) + 1)) = th by omega]; exact IntWalk.i64_in _ (by omega)
          have z4 := z1 th
          clear e hK z1
          go_wp2_with fail
          go_quiet (fail)
          go_wp2_with fail
          go_quiet (fail)
          go_wp2_with fail
          go_quiet (fail)
          go_wp2_with fail
          go_roundw
          case rel => exact ⟨k + 1, by omega, by go_num, hE0.drewN _⟩
          case measure => simp [intOf]; omega
        · have e5 : (co != 5) = true := by simpa using h5
          have e5' : (co == 5) = false := by simpa using h5
          by_cases hA : asksC co = true
          · have b : ((k : Int) < th ∧ th < n) ∧ ((k : Int) < el ∧ el < n) := by
              have hq := asks_code.1 hA
              rcases hK with ⟨q, _, _, _⟩ | ⟨q, _, _⟩ | ⟨q, _, _⟩ | ⟨q, _, _, q1⟩ | ⟨q, q1, q2⟩
              · dsimp only at q; omega
              · dsimp only at q; omega
              · dsimp only at q; omega
              · dsimp only at q; omega
              · exact ⟨q1, q2⟩
            have e : nearI k ⟨co, kk, th, el⟩ = ⟨co, th - (k + 1), el - (k + 1), kk⟩ := by unfold nearI; rw [if_neg h5, if_pos hA]
            rw [e] at c0 c1 c2 c3
            dsimp only at c0 c1 c2 c3
            have w2 : IntKind.i64.wrap (th - ((k : Int) + 1)) = th - (k + 1) := IntWalk.i64_in _ (by omega)
            have w3 : IntKind.i64.wrap ((k : Int) + 1 + (th - ((k : Int) + 1))) = th := by rw [show (k : Int) + 1 + (th - ((k : Int) + 1)) = th by omega]; exact IntWalk.i64_in _ (by omega)
            have w4 : IntKind.i64.wrap (el - ((k : Int) + 1)) = el - (k + 1) := IntWalk.i64_in _ (by omega)
            have w5 : IntKind.i64.wrap ((k : Int) + 1 + (el - ((k : Int) + 1))) = el := by rw [show (k : Int) + 1 + (el - ((k : Int) + 1)) = el by omega]; exact IntWalk.i64_in _ (by omega)
            have z4 := z1 th
            have z5 := z1 el
            have d5 : decide (0 < el) = true := by simp; omega
            clear e hK z1 h5 hA
            go_wp2_with fail
            go_quiet (fail)
            go_wp2_with fail
            go_quiet (fail)
            go_wp2_with fail
            go_quiet (fail)
            go_wp2_with fail
            go_roundw
            case rel => exact ⟨k + 1, by omega, by go_num, hE0.drewN _⟩
            case measure => simp [intOf]; omega
          · have hel : el = 0 := by
              rcases hK with ⟨q, _, q3, _⟩ | ⟨q, _, q3⟩ | ⟨q, _, q3⟩ | ⟨q, _, q3, q1⟩ | ⟨q, q1, q2⟩
              · exact q3
              · exact q3
              · exact q3
              · exact q3
              · exact absurd (asks_code.2 q) hA
            subst hel
            have e : nearI k ⟨co, kk, th, 0⟩ = ⟨co, 0, 0, kk⟩ := by unfold nearI; rw [if_neg h5, if_neg hA]
            rw [e] at c0 c1 c2 c3
            dsimp only at c0 c1 c2 c3
            clear e hK z1 h5 hA
            go_wp2_with fail
            go_quiet (fail)
            go_wp2_with fail
            go_quiet (fail)
            go_wp2_with fail
            go_quiet (fail)
            go_wp2_with fail
            go_roundw
            case rel => exact ⟨k + 1, by omega, by go_num, hE0.drewN _⟩
            case measure => simp [intOf]; omega
      · obtain rfl : k = n := by omega
        go_wp2_with fail
        go_ret
        exact ⟨rfl, hx.trans hy⟩
end Go.Proofs.Ytjlhfmedaandeaa
