import Derived.Test.YtjlhfmedaandeaaCodA
import Derived.Test.YtjlhfmedaandeaaInsnA
import Derived.Test.YtjlhfmedaandeaaBools
/- opt.alive, vestibuleref26.Alive: walked. -/
namespace Go.Proofs.Ytjlhfmedaandeaa
open Go.RowKit Go.ChangeShapes Go.WideShapes
set_option linter.unusedVariables false
set_option linter.unusedSimpArgs false

set_option maxRecDepth 100000 in
theorem refAsks26 (s : Sy) (W : World) : Calls Try.prog 42 #[s.val] W fun e w' => e = .returned (.bool (asksC s.code)) ∧ Ext W w' := by
  obtain ⟨co, k, th, el⟩ := s
  unfold Sy.val Sy.cells
  dsimp only
  have hx := (Ext.refl W).alloc (.cells #[.int .u16 co, .int .u32 k, .int .i64 th, .int .i64 el] 32)
  have bs := Blk.new W 32 #[.int .u16 co, .int .u32 k, .int .i64 th, .int .i64 el]
  obtain ⟨R, hR⟩ : ∃ R, asksC co = R := ⟨_, rfl⟩
  rw [hR]
  have HR := Lib.hid hR
  clear hR
  rcases h1 : (co == 21) with _ | _
  · rcases h2 : (co == 37) with _ | _
    · rcases h3 : (co == 53) with _ | _
      · rcases h4 : (co == 69) with _ | _
        all_goals
          go_enter Try.func42, Try.ntmps42
          go_wp2
          go_ret
          exact ⟨by rw [← HR.out]; unfold asksC; rw [h1, h2, h3, h4]; rfl, hx⟩
      · go_enter Try.func42, Try.ntmps42
        go_wp2
        go_ret
        exact ⟨by rw [← HR.out]; unfold asksC; rw [h1, h2, h3]; rfl, hx⟩
    · go_enter Try.func42, Try.ntmps42
      go_wp2
      go_ret
      exact ⟨by rw [← HR.out]; unfold asksC; rw [h1, h2]; rfl, hx⟩
  · go_enter Try.func42, Try.ntmps42
    go_wp2
    go_ret
    exact ⟨by rw [← HR.out]; unfold asksC; rw [h1]; rfl, hx⟩
set_option maxRecDepth 100000 in
theorem refJump26 (s : Sy) (W : World) : Calls Try.prog 41 #[s.val] W fun e w' => e = .returned (.bool (jumpS s)) ∧ Ext W w' := by
  have HA := Lib.hid (fun W' => refAsks26 s W')
  obtain ⟨co, k, th, el⟩ := s
  unfold jumpS
  unfold Sy.val Sy.cells at *
  dsimp only at *
  have hx := (Ext.refl W).alloc (.cells #[.int .u16 co, .int .u32 k, .int .i64 th, .int .i64 el] 32)
  have bs := Blk.new W 32 #[.int .u16 co, .int .u32 k, .int .i64 th, .int .i64 el]
  obtain ⟨R, hR⟩ : ∃ R, (co == 5 || asksC co) = R := ⟨_, rfl⟩
  rw [hR]
  have HR := Lib.hid hR
  clear hR
  rcases h1 : (co == 5) with _ | _
  · go_enter Try.func41, Try.ntmps41
    go_wp2_with fail
    refine (HA.out _).mono ?_
    rintro e w1 ⟨rfl, hx1⟩
    go_wp2_with fail
    go_ret
    exact ⟨by rw [← HR.out, h1]; rfl, hx.trans hx1⟩
  · go_enter Try.func41, Try.ntmps41
    go_wp2_with fail
    go_ret
    exact ⟨by rw [← HR.out, h1]; rfl, hx⟩
/-- The classes of the codes that may stand in a row. -/
theorem kind_cls {s : Sy} {a n : Int} (h : Kind s a n) : (byE s.code).1.cls = if s.code = 32 then 1 else if s.code = 84 then 3 else if s.code = 6 then 5 else 4 := by
  rcases h with ⟨h1, _, _, _⟩ | ⟨h1, _, _⟩ | ⟨h1, _, _⟩ | ⟨h1, _, _, _⟩ | ⟨h1, _, _⟩
  · rw [h1]; kernel_rfl
  · rw [h1]; kernel_rfl
  · rw [h1]; kernel_rfl
  · rw [h1]; kernel_rfl
  · rcases h1 with h1 | h1 | h1 | h1 <;> rw [h1] <;> kernel_rfl
set_option maxRecDepth 100000 in
theorem optAsks (s : Sy) (h4 : (byE s.code).1.cls = 4) (W : World) : Calls Try.prog 62 #[s.val] W fun e w' => e = .returned (.bool (s.code != 5)) ∧ Ext W w' := by
  have HO := Lib.hid (fun W' => of_any s.code W')
  rw [h4] at HO
  clear h4
  obtain ⟨co, k, th, el⟩ := s
  unfold Sy.val Sy.cells
  dsimp only at *
  have hx := (Ext.refl W).alloc (.cells #[.int .u16 co, .int .u32 k, .int .i64 th, .int .i64 el] 32)
  have bs := Blk.new W 32 #[.int .u16 co, .int .u32 k, .int .i64 th, .int .i64 el]
  go_enter Try.func62, Try.ntmps62
  go_wp2_with fail
  refine (HO.out _).mono ?_
  rintro e w1 ⟨rfl, hx1⟩
  have b1 := bs.ext hx1
  have s0 := (b1).cell 0
  have s1 := (b1).cell 1
  have s2 := (b1).cell 2
  have s3 := (b1).cell 3
  go_wp2_with fail
  go_ret
  exact ⟨rfl, hx.trans hx1⟩
theorem lt_last {ps : List Sy} (hm : MayL ps) {k : Nat} (hk : k < ps.length) (h : (ps.getD k zeroS).code ≠ 6) : k + 1 < ps.length := by
  have hl := hm.last
  have : k ≠ ps.length - 1 := fun e => h (by rw [e]; exact hl)
  omega
set_option maxHeartbeats 4000000 in
set_option maxRecDepth 100000 in
theorem optAlive (A : Option Addr) (n c : Nat) (ps : List Sy) (w : World) (hp : ps.length = n) (hmay : MayL ps) (hM : InM w A (sc ps)) :
    Calls Try.prog 40 #[.slice A n c] w fun e w' => e = .returned (.slice (some ⟨w.heap.size, 0, none⟩) n n) ∧ Blk w' w.heap.size 4 (bools (aliveT ps)) ∧ Ext w w' := by
  have n1 : 1 ≤ n := by have := hmay.l1; omega
  have n2 : n ≤ 131072 := by have := hmay.l2; omega
  have hmk : ∀ w : World, (Instr.makeSlice 23 (.int .i64 (n : Int)) (.int .i64 (n : Int))).run Try.prog w = .ok (.slice (some ⟨w.heap.size, 0, none⟩) n n) (w.alloc (.cells (bools (List.replicate n false)) 4)) := fun w => by
    rw [← bools_rep]
    exact make_run1 23 4 (.bool false) 1 Try.underlying23 info_bool rfl .i64 .i64 n n (Nat.le_refl _) (by omega) (by decide) w
  have HM := Lib.hid hM
  have HP := Lib.hid hp
  have HY := Lib.hid hmay
  have HL := Lib.hid (fun k => (aupto_length ps k).trans hp)
  have h0 : aupto ps 0 = (List.replicate n false).set 0 true := by unfold aupto; rw [hp]; rfl
  have H0 := Lib.hid h0
  have HT := Lib.hid (show aliveT ps = aupto ps n from by unfold aliveT; rw [hp])
  have b0 := Blk.new w 4 (bools (List.replicate n false))
  have c0 := (b0.cell 0).trans (bools_at (List.replicate n false) 0 (by simp; omega))
  have f0 := b0.frozen 0
  have B1 : Blk (w.alloc (.cells ((bools (List.replicate n false)).setIfInBounds 0 (.bool true)) 4)) w.heap.size 4 (bools (aupto ps 0)) := by
    have h := Blk.new w 4 ((bools (List.replicate n false)).setIfInBounds 0 (.bool true))
    have e : (bools (List.replicate n false)).setIfInBounds 0 (.bool true) = bools (aupto ps 0) := by rw [bools_set, h0]
    unfold Blk at h ⊢
    rw [h, e]
  have B1 := Lib.hid B1
  have X1 := Lib.hid ((Ext.refl w).alloc (.cells ((bools (List.replicate n false)).setIfInBounds 0 (.bool true)) 4))
  have n3 : (0 : Int) < n := by omega
  have n4 : (n : Int) ≤ 131072 := by omega
  clear hM hp hmay h0 b0
  go_enter Try.func40, Try.ntmps40
  go_wp2_with fail
  clear c0 f0
  go_loopw [13] (fun it W => ∃ k : Nat, k ≤ n ∧ it = .int .i64 k ∧ Ext w W ∧ Blk W w.heap.size 4 (bools (aupto ps k))) (fun it _ => n - (intOf it).toNat)
  case atStart => exact ⟨0, Nat.zero_le _, rfl, X1.out, B1.out⟩
  case round =>
    obtain ⟨k, hk, rfl, hy, hB⟩ := hrel
    by_cases hlt : k < n
    · have hkp : k < ps.length := by rw [HP.out]; exact hlt
      obtain ⟨bA, oA, rfl, hbA⟩ := sym_some HM.out (by omega)
      obtain ⟨p0, p1, p2, p3⟩ := sym_cells (HM.out.ext hy) hkp
      have hK := kind_of (HY.out.one k hkp)
      have hcl := kind_cls hK
      have hla := lt_last HY.out hkp
      have hst := aupto_succ ps k
      have hln := HL.out k
      have k1 : (0 : Int) ≤ k := by omega
      have k2 : (k : Int) < n := by omega
      have k3 : (k : Int) ≤ 131072 := by omega
      have hAK := fun h => astep_kind hK ps (aupto ps k) k rfl h
      have hA0 : (aupto ps k).getD k false = false → astep ps (aupto ps k) k = aupto ps k := fun h => by unfold astep; rw [h]; rfl
      rw [HP.out] at hK hla
      have hc1 := (hB.cell k).trans (bools_at (aupto ps k) k (by omega))
      have hgk : (aupto ps k).getD k false = (aupto ps k)[k]'(by omega) := by rw [List.getD_eq_getElem?_getD, List.getElem?_eq_getElem (by omega)]; rfl
      rw [← hgk] at hc1
      rw [getD_sy hkp] at hK hcl hla hAK
      have HA := Lib.hid hst
      clear hst hgk
      generalize hl_ : aupto ps k = l at *
      generalize ps[k] = s at *
      obtain ⟨co, kk, th, el⟩ := s
      dsimp only at p0 p1 p2 p3 hcl hla hAK
      have bs := Blk.new wr 32 #[.int .u16 co, .int .u32 kk, .int .i64 th, .int .i64 el]
      have hya := hy.alloc (.cells #[.int .u16 co, .int .u32 kk, .int .i64 th, .int .i64 el] 32)
      have hBa := hB.alloc (.cells #[.int .u16 co, .int .u32 kk, .int .i64 th, .int .i64 el] 32)
      have hca := ((hBa.cell k).trans ((hB.cell k).symm.trans hc1))
      have hne : w.heap.size ≠ wr.heap.size := by have := hB.lt; omega
      have HAK := Lib.hid hAK
      have HA0 := Lib.hid hA0
      have HHL := Lib.hid hl_
      clear hA0 hAK hl_ hc1 hbA hkp
      rcases hv : l.getD k false with _ | _
      · have hr := HA0.out hv
        rw [hv] at hca
        have HR := Lib.hid hr
        clear hr hv HA0 HAK
        go_wp2_with fail
        go_roundw
        case rel => exact ⟨k + 1, by omega, by go_num, hya, by rw [HA.out, HR.out]; exact hBa⟩
        case measure => simp [intOf]; omega
      · have hr := HAK.out hv
        rw [hv] at hca
        clear HA0 HAK hv
        by_cases h6 : co = 6
        · rw [if_pos h6] at hr
          have HR := Lib.hid hr
          subst h6
          clear hr hla hcl hK
          go_wp2_with fail
          go_roundw
          case rel => exact ⟨k + 1, by omega, by go_num, hya, by rw [HA.out, HR.out]; exact hBa⟩
          case measure => simp [intOf]; omega
        have e6 : (co == 6) = false := by simpa using h6
        rw [if_neg h6] at hr
        by_cases h2 : co = 32 ∨ co = 84
        · rw [if_pos h2] at hr
          have HR := Lib.hid hr
          have hk1 : k + 1 < n := hla h6
          obtain ⟨q, hq, hq4⟩ : ∃ q : Int, (byE co).1.cls = q ∧ (q != 4) = true := by
            rcases h2 with h | h
            · exact ⟨1, by rw [h]; kernel_rfl, rfl⟩
            · exact ⟨3, by rw [h]; kernel_rfl, rfl⟩
          have OF := Lib.hid (fun W' => of_any co W')
          rw [hq] at OF
          have k4 : (k : Int) + 1 < n := by omega
          clear hr hla hcl hK h2 h6 hq
          go_wp2_with fail
          refine (OF.out _).mono ?_
          rintro e w9 ⟨rfl, hx9⟩
          have hB9 := hBa.ext hx9
          have c9 := (hB9.cell (k + 1)).trans (bools_at l (k + 1) (by omega))
          have f9 := hB9.frozen (k + 1)
          go_wp2_with fail
          go_roundw
          case rel =>
            have hs := hB9.set_ (k + 1) (.bool true)
            rw [bools_set] at hs
            exact ⟨k + 1, by omega, by go_num, (hya.trans hx9).set (p := ⟨w.heap.size, k + 1, none⟩) (Nat.le_refl _) _, by rw [HA.out, HR.out]; exact hs⟩
          case measure => simp [intOf]; omega
        have h32 : co ≠ 32 := fun h => h2 (.inl h)
        have h84 : co ≠ 84 := fun h => h2 (.inr h)
        rw [if_neg h2] at hr
        have hc4 : (byE co).1.cls = 4 := by rw [hcl, if_neg h32, if_neg h84, if_neg h6]
        have OF := Lib.hid (fun W' => of_any co W')
        have OA := Lib.hid (fun W' => optAsks ⟨co, kk, th, el⟩ hc4 W')
        rw [hc4] at OF
        obtain ⟨t, rfl, ht⟩ : ∃ t : Nat, th = t ∧ t < n := by
          rcases hK with ⟨h, _, _, _⟩ | ⟨h, _, _⟩ | ⟨h, _, _⟩ | ⟨h, _, _, h9⟩ | ⟨h, h9, _⟩
          · exact absurd h h32
          · exact absurd h h84
          · exact absurd h h6
          · exact ⟨th.toNat, by dsimp only at h9; omega, by dsimp only at h9; omega⟩
          · exact ⟨th.toNat, by dsimp only at h9; omega, by dsimp only at h9; omega⟩
        have t0 : (0 : Int) ≤ t := by omega
        have t1 : (t : Int) < n := by omega
        by_cases h5 : co = 5
        · rw [if_pos h5] at hr
          have HR := Lib.hid hr
          subst h5
          clear hr hla hcl hK h2 h6 h32 h84 hc4
          go_wp2_with fail
          refine (OF.out _).mono ?_
          rintro e w9 ⟨rfl, hx9⟩
          have hB9 := hBa.ext hx9
          have c9 := (hB9.cell t).trans (bools_at l t (by omega))
          have f9 := hB9.frozen t
          have bs9 := bs.ext hx9
          have bs10 := bs9.far (p := ⟨w.heap.size, t, none⟩) (Ne.symm hne) (.bool true)
          have hB10 := hB9.set_ t (.bool true)
          rw [bools_set] at hB10
          have hy10 := (hya.trans hx9).set (p := ⟨w.heap.size, t, none⟩) (Nat.le_refl _) (.bool true)
          have z2 := bs9.cell 2
          have s0 := (bs10).cell 0
          have s1 := (bs10).cell 1
          have s2 := (bs10).cell 2
          have s3 := (bs10).cell 3
          go_wp2_with fail
          refine (OA.out _).mono ?_
          rintro e w11 ⟨rfl, hx11⟩
          have hB11 := hB10.ext hx11
          clear c9 f9 z2
          go_wp2_with fail
          go_roundw
          case rel => exact ⟨k + 1, by omega, by go_num, (hy10.trans hx11), by rw [HA.out, HR.out]; exact hB11⟩
          case measure => simp [intOf]; omega
        · rw [if_neg h5] at hr
          have HR := Lib.hid hr
          have e5 : (co != 5) = true := by simpa using h5
          obtain ⟨u, rfl, hu⟩ : ∃ u : Nat, el = u ∧ u < n := by
            rcases hK with ⟨h, _, _, _⟩ | ⟨h, _, _⟩ | ⟨h, _, _⟩ | ⟨h, _, _, h9⟩ | ⟨h, _, h9⟩
            · exact absurd h h32
            · exact absurd h h84
            · exact absurd h h6
            · exact absurd h h5
            · exact ⟨el.toNat, by dsimp only at h9; omega, by dsimp only at h9; omega⟩
          have u0 : (0 : Int) ≤ u := by omega
          have u1 : (u : Int) < n := by omega
          clear hr hla hcl hK h2 h6 h32 h84 hc4 h5
          go_wp2_with fail
          refine (OF.out _).mono ?_
          rintro e w9 ⟨rfl, hx9⟩
          have hB9 := hBa.ext hx9
          have c9 := (hB9.cell t).trans (bools_at l t (by omega))
          have f9 := hB9.frozen t
          have bs9 := bs.ext hx9
          have bs10 := bs9.far (p := ⟨w.heap.size, t, none⟩) (Ne.symm hne) (.bool true)
          have hB10 := hB9.set_ t (.bool true)
          rw [bools_set] at hB10
          have hy10 := (hya.trans hx9).set (p := ⟨w.heap.size, t, none⟩) (Nat.le_refl _) (.bool true)
          have z2 := bs9.cell 2
          have s0 := (bs10).cell 0
          have s1 := (bs10).cell 1
          have s2 := (bs10).cell 2
          have s3 := (bs10).cell 3
          go_wp2_with fail
          refine (OA.out _).mono ?_
          rintro e w11 ⟨rfl, hx11⟩
          have hB11 := hB10.ext hx11
          clear c9 f9 z2
          have bs11 := bs10.ext hx11
          clear s0 s1 s2 s3
          have s0 := (bs11).cell 0
          have s1 := (bs11).cell 1
          have s2 := (bs11).cell 2
          have s3 := (bs11).cell 3
          have c11 := (hB11.cell u).trans (bools_at (l.set t true) u (by rw [List.length_set]; omega))
          have f11 := hB11.frozen u
          go_wp2_with fail
          go_roundw
          case rel =>
            have hs := hB11.set_ u (.bool true)
            rw [bools_set] at hs
            exact ⟨k + 1, by omega, by go_num, (hy10.trans hx11).set (p := ⟨w.heap.size, u, none⟩) (Nat.le_refl _) _, by rw [HA.out, HR.out]; exact hs⟩
          case measure => simp [intOf]; omega
    · obtain rfl : k = n := by omega
      go_wp2_with fail
      go_ret
      exact ⟨rfl, by rw [HT.out]; exact hB, hy⟩
end Go.Proofs.Ytjlhfmedaandeaa
