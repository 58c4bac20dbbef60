import Derived.Test.YtjlhfmedaandeaaMoved2
import Derived.Maps.OwnOps
import Derived.Maps.Views
import Derived.RegionTactic
/- opt.shared: its map, its closure, its walk. -/
namespace Go.Proofs.Ytjlhfmedaandeaa
open Go.RowKit Go.ChangeShapes Go.WideShapes Go.Maps
set_option linter.unusedVariables false
set_option linter.unusedSimpArgs false

theorem keyU : Keyed Try.prog 30 := int_keyed Try.underlying30
theorem zeroI64 (w : World) : (zeroValue 3).run Try.prog w = .ok (.int .i64 0) w := by kernel_rfl
/-- The map of the last rets of the first m instructions. -/
structure MapL (W : World) (gm m : Nat) (ps : List Sy) (D : DataW Unit) : Prop where
  own : W.ownsMap Try.prog 30 (plainElem (H := Unit) Try.prog 3) gm m D
  isM : IsMap D
  at_ : ∀ K : Int, D.atKey (.int .u32 K) (.lit (.int .i64 0)) = .lit (.int .i64 ((lastR ps K 0 m : Nat) : Int))
theorem MapL.ext {W W' : World} {gm m : Nat} {ps : List Sy} {D : DataW Unit} (h : MapL W gm m ps D) (e : Ext W W') : MapL W' gm m ps D := by
  obtain ⟨hl, h2, h3⟩ := h
  have hlt := hl.lt
  obtain ⟨es, clock, hb, F, hs, hD⟩ := hl
  exact ⟨⟨es, clock, (e.block hlt).trans hb, F, hs, hD⟩, h2, h3⟩
theorem mapL_zero (w : World) (ps : List Sy) (gm : Nat) (h : gm = w.heap.size) : MapL (w.alloc (.map #[] 0)) gm 0 ps (.map []) := by
  subst h
  exact ⟨World.ownsMap_made _ _ _ _, isMap_empty, fun K => rfl⟩
theorem mapL_put {W' : World} {gm m : Nat} {ps : List Sy} {D : DataW Unit} (hi : IsMap D) (ha : ∀ K : Int, D.atKey (.int .u32 K) (.lit (.int .i64 0)) = .lit (.int .i64 ((lastR ps K 0 m : Nat) : Int)))
    (h6 : (ps.getD m zeroS).code = 6) (kk : Int) (hk : (ps.getD m zeroS).k = kk) (hown : W'.ownsMap Try.prog 30 (plainElem (H := Unit) Try.prog 3) gm (m + 1) (D.put (.int .u32 kk) (.lit (.int .i64 m)))) :
    MapL W' gm (m + 1) ps (D.put (.int .u32 kk) (.lit (.int .i64 m))) := by
  refine ⟨hown, hi.put _ _, fun K => ?_⟩
  unfold lastR
  by_cases e : K = kk
  · subst e
    rw [atKey_put_same hi (k := .int .u32 K) True.intro, if_pos ⟨h6, hk⟩]
  · rw [atKey_put_other (fun q => e (by injection q)), if_neg (fun q => e (by rw [← q.2]; exact hk)), ha]
theorem mapL_skip {W : World} {gm m : Nat} {ps : List Sy} {D : DataW Unit} (h : MapL W gm m ps D) (h6 : (ps.getD m zeroS).code ≠ 6) : MapL W gm (m + 1) ps D :=
  ⟨h.own.mono (by omega), h.isM, fun K => by
    unfold lastR
    rw [if_neg (fun q => h6 q.1)]
    exact h.at_ K⟩
theorem mapL_get {W : World} {gm m : Nat} {ps : List Sy} {D : DataW Unit} (h : MapL W gm m ps D) (kk : Int) (hk : 0 ≤ kk ∧ kk < 4294967296) : (Instr.lookup 99 (.map (some gm)) (.int .u32 kk) false).run Try.prog W = .ok (.int .i64 ((lastR ps kk 0 m : Nat) : Int)) W := by
  have hw : (Lit.int .u32 kk).wf = true := by
    have e1 : IntKind.u32.min = 0 := by decide
    have e2 : IntKind.u32.max = 4294967295 := by decide
    unfold Lit.wf
    rw [Bool.and_eq_true, decide_eq_true_eq, decide_eq_true_eq, e1, e2]
    omega
  obtain ⟨c, hrun, hat, _⟩ := h.own.lookup_int keyU Try.underlying99 Try.underlying3 (zeroI64 W) (keyOf_int_mk Try.underlying30 hw)
  rw [h.at_] at hat
  generalize ((lastR ps kk 0 m : Nat) : Int) = v at *
  have e : v = c := by
    simp only [DataW.lit.injEq, Lit.int.injEq, true_and] at hat
    exact hat
  rw [hrun, e]
set_option maxRecDepth 100000 in
theorem sharedC (ga gb gm b o n c : Nat) (ps : List Sy) (D : DataW Unit) (hp : ps.length = n) (n2 : n ≤ 131072) (hok : ∀ i ∈ ps, i.ok) (W : World) (hA : Blk W ga 22 #[.slice (some ⟨b, o, none⟩) n c]) (hG : Blk W gb 99 #[.map (some gm)]) (hM : InM W (some ⟨b, o, none⟩) (sc ps)) (hL : MapL W gm n ps D)
    (t : Int) (ht : 0 ≤ t ∧ t < n) :
    Calls Try.prog 70 #[.int .i64 t, .pointer (some ⟨ga, 0, none⟩), .pointer (some ⟨gb, 0, none⟩)] W fun e w' => e = .returned (.int .i64 (lastT ps t)) ∧ Ext W w' := by
  obtain ⟨t, rfl⟩ : ∃ x : Nat, t = x := ⟨t.toNat, by omega⟩
  have htp : t < ps.length := by omega
  obtain ⟨c0, c1, c2, c3⟩ := sym_cells hM htp
  have hR : lastT ps t = if ps[t].code = 6 then ((lastR ps ps[t].k 0 n : Nat) : Int) else (t : Int) := by
    unfold lastT
    rw [Int.toNat_natCast, show ps.getD t zeroS = ps[t] by simp [List.getD_eq_getElem?_getD, htp], hp]
  rw [hR]
  have a0 := hA.cell 0
  have g0 := hG.cell 0
  have t0 : (0 : Int) ≤ t := by omega
  have t1 : (t : Int) < n := by omega
  have ho := (hok _ (List.getElem_mem htp)).2.1
  have hlk := mapL_get hL ps[t].k ho
  have hlk2 := mapL_get (hL.ext (Ext.refl W).drew) ps[t].k ho
  generalize ps[t] = s at *
  obtain ⟨co, kk, th, el⟩ := s
  dsimp only at *
  simp only [List.getElem?_toArray, List.getElem?_cons_zero] at a0 g0
  clear hR hM hp htp ht hL hA hG ho hok
  by_cases h6 : co = 6
  · rw [if_pos h6]
    have e6 : (co == 6) = true := by simpa using h6
    generalize ((lastR ps kk 0 n : Nat) : Int) = v at *
    clear h6
    go_enter Try.func70, Try.ntmps70
    go_wp2_with fail
    go_region
    all_goals
      go_wp2_with fail
      go_ret
      exact ⟨rfl, (Ext.refl _).drew⟩
  · rw [if_neg h6]
    have e6 : (co == 6) = false := by simpa using h6
    clear h6 hlk hlk2
    go_enter Try.func70, Try.ntmps70
    go_wp2_with fail
    go_ret
    exact ⟨rfl, Ext.refl _⟩
set_option maxHeartbeats 2000000 in
set_option maxRecDepth 100000 in
theorem sharedI (b o n c : Nat) (ps : List Sy) (w : World) (hp : ps.length = n) (hY : MayL ps) (hok : ∀ i ∈ ps, i.ok) (hM : InM w (some ⟨b, o, none⟩) (sc ps)) :
    Calls Try.prog 51 #[.slice (some ⟨b, o, none⟩) n c] w fun e w' => ∃ g c' more, e = .returned (.slice (some ⟨g, 0, none⟩) n c') ∧ Blk w' g 32 (sc (shareL ps) ++ more).toArray ∧ w.heap.size ≤ g ∧ Ext w w' := by
  have hmm := @run_makeMap Try.prog
  have n1 : 1 ≤ n := by have := hY.l1; omega
  have n2 : n ≤ 131072 := by have := hY.l2; omega
  have HM := Lib.hid hM
  have HP := Lib.hid hp
  have HY := Lib.hid hY
  have HO := Lib.hid hok
  clear hM hp hY hok
  go_enter Try.func51, Try.ntmps51
  go_wp2_with fail
  have bA := Blk.new w 22 #[.slice (some ⟨b, o, none⟩) n c]
  have wm0 := mapL_zero (w.alloc (.cells #[.slice (some ⟨b, o, none⟩) n c] 22)) ps (w.heap.size + 1) (by simp)
  have bB : Blk (((w.alloc (.cells #[.slice (some ⟨b, o, none⟩) n c] 22)).alloc (.map #[] 0)).alloc (.cells #[.map (some (w.heap.size + 1))] 99)) (w.heap.size + 1 + 1) 99 #[.map (some (w.heap.size + 1))] := Blk.new_ (by simp)
  have hE := (((Ext.refl w).alloc (.cells #[.slice (some ⟨b, o, none⟩) n c] 22)).alloc (.map #[] 0)).alloc (.cells #[.map (some (w.heap.size + 1))] 99)
  have bA2 := (bA.alloc (.map #[] 0)).alloc (.cells #[.map (some (w.heap.size + 1))] 99)
  have wm := wm0.ext ((Ext.refl _).alloc (.cells #[.map (some (w.heap.size + 1))] 99))
  have hsz : (((w.alloc (.cells #[.slice (some ⟨b, o, none⟩) n c] 22)).alloc (.map #[] 0)).alloc (.cells #[.map (some (w.heap.size + 1))] 99)).heap.size = w.heap.size + 3 := by simp
  have HWM := Lib.hid wm
  clear bA wm0 wm
  generalize ((w.alloc (.cells #[.slice (some ⟨b, o, none⟩) n c] 22)).alloc (.map #[] 0)).alloc (.cells #[.map (some (w.heap.size + 1))] 99) = w0 at *
  have HA := Lib.hid bA2
  have HB := Lib.hid bB
  have HE := Lib.hid hE
  have HZ := Lib.hid hsz
  clear bA2 bB hE hsz
  go_loopw [9] (fun it W => ∃ (k : Nat) (D : DataW Unit), k ≤ n ∧ it = .int .i64 k ∧ Ext w W ∧ Hid (MapL W (w.heap.size + 1) k ps D) ∧ Blk W w.heap.size 22 #[.slice (some ⟨b, o, none⟩) n c] ∧ Blk W (w.heap.size + 1 + 1) 99 #[.map (some (w.heap.size + 1))]) (fun it _ => n - (intOf it).toNat)
  case atStart => exact ⟨0, _, Nat.zero_le _, rfl, HE.out, HWM, HA.out, HB.out⟩
  case round =>
    obtain ⟨k, D, hk, rfl, hy, hL, hA, hB⟩ := hrel
    by_cases hlt : k < n
    · have hkp : k < ps.length := by rw [HP.out]; exact hlt
      obtain ⟨q0, q1, q2, q3⟩ := sym_cells (HM.out.ext hy) hkp
      have hgd : ps.getD k zeroS = ps[k] := by simp [List.getD_eq_getElem?_getD, hkp]
      have ho := (HO.out _ (List.getElem_mem hkp)).2.1
      have k1 : (0 : Int) ≤ k := by omega
      have k2 : (k : Int) < n := by omega
      have k3 : (k : Int) ≤ 131072 := by omega
      have hy2 := hy.alloc (.cells #[.int .u16 ps[k].code, .int .u32 ps[k].k, .int .i64 ps[k].th, .int .i64 ps[k].el] 32)
      have HGD := Lib.hid hgd
      clear hgd
      generalize ps[k] = s at *
      obtain ⟨co, kk, th, el⟩ := s
      dsimp only at *
      have bs := Blk.new wr 32 #[.int .u16 co, .int .u32 kk, .int .i64 th, .int .i64 el]
      have hE0 := (Ext.refl wr).alloc (.cells #[.int .u16 co, .int .u32 kk, .int .i64 th, .int .i64 el] 32)
      have s0 := (bs).cell 0
      have s1 := (bs).cell 1
      have s2 := (bs).cell 2
      have s3 := (bs).cell 3
      have a0 := (hA.ext hE0).cell 0
      have g0 := (hB.ext hE0).cell 0
      simp only [List.getElem?_toArray, List.getElem?_cons_zero] at a0 g0
      by_cases h6 : co = 6
      · have e6 : (co == 6) = true := by simpa using h6
        have hown := (hL.out.ext hE0).own
        have hi := Lib.hid hL.out.isM
        have hat := Lib.hid hL.out.at_
        have hw : (Lit.int .u32 kk).wf = true := by
          have e1 : IntKind.u32.min = 0 := by decide
          have e2 : IntKind.u32.max = 4294967295 := by decide
          unfold Lit.wf
          rw [Bool.and_eq_true, decide_eq_true_eq, decide_eq_true_eq, e1, e2]
          omega
        have hw2 : (Lit.int .i64 (k : Int)).wf = true := by
          have e1 : IntKind.i64.min = -9223372036854775808 := by decide
          have e2 : IntKind.i64.max = 9223372036854775807 := by decide
          unfold Lit.wf
          rw [Bool.and_eq_true, decide_eq_true_eq, decide_eq_true_eq, e1, e2]
          omega
        have hkey : keyOf Try.prog 30 (.int .u32 kk) = some (.int .u32 kk) := keyOf_int_mk Try.underlying30 hw
        have hg6 : (ps.getD k zeroS).code = 6 ∧ (ps.getD k zeroS).k = kk := by rw [HGD.out]; exact ⟨h6, rfl⟩
        have HG6 := Lib.hid hg6
        have hnm : k < maxLen := by unfold maxLen; omega
        have HV := Lib.hid (plainElem_int (H := Unit) Try.underlying3 hw2)
        have HK := Lib.hid hkey
        have HNM := Lib.hid hnm
        have HA2 := Lib.hid (hA.ext hE0)
        have HB2 := Lib.hid (hB.ext hE0)
        clear hw hw2 hg6 h6 hA hB hL hkey hnm
        go_wp2_with (at_mapUpdate; refine wpList_mapUpdate_own _ rfl _ _ _ 99 rfl 30 3 keyU Try.underlying99 _ (w.heap.size + 1) k D rfl hown HNM.out _ _ _ rfl rfl HK.out _ [] HV.out ?_; intro w1 hown1 hgrow1)
        have hne1 : some w.heap.size ≠ some (w.heap.size + 1) := fun e => by injection e with e; omega
        have hne2 : some (w.heap.size + 1 + 1) ≠ some (w.heap.size + 1) := fun e => by injection e with e; omega
        have HA3 := Lib.hid (HA2.out.grown hgrow1 hne1)
        have HB3 := Lib.hid (HB2.out.grown hgrow1 hne2)
        have HY3 := Lib.hid (hy2.grown hgrow1 (fun r e => by injection e with e; omega))
        have HL3 := Lib.hid (mapL_put hi.out hat.out HG6.out.1 kk HG6.out.2 hown1)
        clear hown hown1 hgrow1 hne1 hne2
        go_roundw
        case rel => exact ⟨k + 1, _, by omega, by go_num, HY3.out, HL3, HA3.out, HB3.out⟩
        case measure => simp [intOf]; omega
      · have e6 : (co == 6) = false := by simpa using h6
        have HL3 := Lib.hid (mapL_skip (hL.out.ext hE0) (by rw [HGD.out]; exact h6))
        have HA2 := Lib.hid (hA.ext hE0)
        have HB2 := Lib.hid (hB.ext hE0)
        clear h6 hA hB hL
        go_wp2_with fail
        go_roundw
        case rel => exact ⟨k + 1, D, by omega, by go_num, hy2, HL3, HA2.out, HB2.out⟩
        case measure => simp [intOf]; omega
    · obtain rfl : k = n := by omega
      have a0 := hA.cell 0
      simp only [List.getElem?_toArray, List.getElem?_cons_zero] at a0
      have hn2 := HY.out.l2
      have HC := Lib.hid (movedS w.heap.size (w.heap.size + 1 + 1) (lastT ps) (fun t => 0 ≤ t ∧ t < k) b o k c ps wr HP.out n1 n2 (HM.out.ext hy)
        (fun i hi => ⟨_, _, kind_of (HY.out.one i (by rw [HP.out]; exact hi))⟩)
        (fun i hi t ht => by
          have hK := kind_of (HY.out.one i (by rw [HP.out]; exact hi))
          rw [HP.out] at hK
          have hb := tgt_bd hK ht
          omega)
        (fun W t hW ht => sharedC w.heap.size (w.heap.size + 1 + 1) (w.heap.size + 1) b o k c ps D HP.out n2 HO.out W (hA.ext hW) (hB.ext hW) (HM.out.ext (hy.trans hW)) (hL.out.ext hW) t ht))
      clear hA hB hL
      go_wp2_with fail
      refine (HC.out).mono ?_
      rintro e w5 ⟨g, c', more, rfl, hb5, hg5, hx5⟩
      go_wp2_with fail
      go_ret
      exact ⟨g, c', more, rfl, hb5, by have := hy.size; omega, hy.trans hx5⟩
end Go.Proofs.Ytjlhfmedaandeaa
