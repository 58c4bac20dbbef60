import Derived.Test.YtjlhfmedaandeaaRunP
import Derived.Test.YtjlhfmedaandeaaCodA
import Derived.Test.YtjlhfmedaandeaaLkC
import Derived.Test.YtjlhfmedaandeaaData
/- code.holds, code.Run. -/
namespace Go.Proofs.Ytjlhfmedaandeaa
open Go.RowKit Go.ChangeShapes Go.WideShapes
set_option linter.unusedVariables false
set_option linter.unusedSimpArgs false

theorem and_u32 (a b : Int) : U32 (bits .and .u32 a b) := by
  unfold bits
  have e : ∀ x, IntKind.u32.wrap x = x % 4294967296 := fun x => IntKind.wrap_u32 x
  rw [e]
  unfold U32
  omega
set_option maxRecDepth 100000 in
theorem holdsI (s : Sy) (x : Int) (hk : U32 s.k) (hx : U32 x) (W : World) : Calls Try.prog 59 #[s.val, .int .u32 x] W fun e w' => e = .returned (.bool (holdS s x)) ∧ Ext W w' := by
  obtain ⟨co, k, th, el⟩ := s
  unfold Sy.val Sy.cells
  dsimp only at *
  obtain ⟨k0, k1⟩ := hk
  obtain ⟨x0, x1⟩ := hx
  have hE := (Ext.refl W).alloc (.cells #[.int .u16 co, .int .u32 k, .int .i64 th, .int .i64 el] 32)
  obtain ⟨R, hR⟩ : ∃ R, holdS ⟨co, k, th, el⟩ x = R := ⟨_, rfl⟩
  rw [hR]
  unfold holdS at hR
  dsimp only at hR
  have HR := Lib.hid hR
  clear hR
  by_cases h1 : co = 21
  · have HR2 := Lib.hid (HR.out.symm.trans (if_pos h1))
    have e1 : (co == 21) = true := by simpa using h1
    rw [HR2.out]
    clear HR HR2 h1
    go_enter Try.func59, Try.ntmps59
    go_wp2
    go_ret
    exact ⟨rfl, hE⟩
  · have e1 : (co == 21) = false := by simpa using h1
    by_cases h2 : co = 37
    · have HR2 := Lib.hid (HR.out.symm.trans ((if_neg h1).trans (if_pos h2)))
      have e2 : (co == 37) = true := by simpa using h2
      rw [HR2.out]
      clear HR HR2 h1 h2
      go_enter Try.func59, Try.ntmps59
      go_wp2
      go_ret
      exact ⟨rfl, hE⟩
    · have e2 : (co == 37) = false := by simpa using h2
      by_cases h3 : co = 53
      · have HR2 := Lib.hid (HR.out.symm.trans ((if_neg h1).trans ((if_neg h2).trans (if_pos h3))))
        have e3 : (co == 53) = true := by simpa using h3
        rw [HR2.out]
        clear HR HR2 h1 h2 h3
        go_enter Try.func59, Try.ntmps59
        go_wp2
        go_ret
        exact ⟨rfl, hE⟩
      · have e3 : (co == 53) = false := by simpa using h3
        by_cases h4 : co = 69
        · have HR2 := Lib.hid (HR.out.symm.trans ((if_neg h1).trans ((if_neg h2).trans ((if_neg h3).trans (if_pos h4)))))
          have e4 : (co == 69) = true := by simpa using h4
          rw [HR2.out]
          clear HR HR2 h1 h2 h3 h4
          go_enter Try.func59, Try.ntmps59
          go_wp2
          go_ret
          exact ⟨rfl, hE⟩
        · have HR2 := Lib.hid (HR.out.symm.trans ((if_neg h1).trans ((if_neg h2).trans ((if_neg h3).trans (if_neg h4)))))
          have e4 : (co == 69) = false := by simpa using h4
          rw [HR2.out]
          clear HR HR2 h1 h2 h3 h4
          go_enter Try.func59, Try.ntmps59
          go_wp2
          go_ret
          exact ⟨rfl, hE⟩
theorem datw_u32 (d : Dat) (hd : d.ok) (k : Int) : U32 (d.word k) := by
  unfold Dat.word
  split
  · exact wordAt_u32 d hd _
  · exact ⟨by decide, by decide⟩
set_option maxRecDepth 100000 in
theorem codeRunNo (A : Option Addr) (n c : Nat) (ps : List Sy) (w : World) (hp : ps.length = n) (hok : ∀ i ∈ ps, i.ok) (hn : n ≤ maxLen) (hM : InM w A (sc ps)) (h : mayL ps = false) (d : Dat) :
    Calls Try.prog 37 #[.slice A n c, d.val] w fun e w' => e = .returned (.tuple #[.int .u32 0, .int .i64 0, .int .i64 250]) ∧ Ext w w' := by
  have H := Lib.hid (fun W hW => codeMay A n c ps W hp hok hn hW)
  rw [h] at H
  have HM := Lib.hid hM
  obtain ⟨nr, arch, ip, a0, a1, a2, a3, a4, a5⟩ := d
  have hx := (Ext.refl w).alloc (.cells #[.int .u32 nr, .int .u32 arch, .int .u64 ip, .int .u64 a0, .int .u64 a1, .int .u64 a2, .int .u64 a3, .int .u64 a4, .int .u64 a5] 53)
  clear hp hok hn hM h
  go_enter Try.func37, Try.ntmps37
  go_wp2_with fail
  refine (H.out _ (HM.out.ext hx)).mono ?_
  rintro e w1 ⟨rfl, hx1⟩
  go_wp2_with fail
  go_ret3
  exact ⟨rfl, hx.trans hx1⟩
set_option maxHeartbeats 2000000 in
set_option maxRecDepth 100000 in
theorem codeRunYes (A : Option Addr) (n c : Nat) (ps : List Sy) (w : World) (hp : ps.length = n) (hok : ∀ i ∈ ps, i.ok) (hM : InM w A (sc ps)) (h : mayL ps = true) (d : Dat) (hd : d.ok) :
    Calls Try.prog 37 #[.slice A n c, d.val] w fun e w' => e = .returned (.tuple #[.int .u32 (runS d.word ps).1, .int .i64 (runS d.word ps).2, .int .i64 0]) ∧ Ext w w' := by
  have hY := mayL_of h
  have n1 : 1 ≤ n := by have := hY.l1; omega
  have n2 : n ≤ 131072 := by have := hY.l2; omega
  have H := Lib.hid (fun W hW => codeMay A n c ps W hp hok (by unfold maxLen; omega) hW)
  rw [h] at H
  obtain ⟨bA, oA, rfl, hbA⟩ := sym_some hM (by omega)
  have HM := Lib.hid hM
  have HO := Lib.hid hok
  have HP := Lib.hid hp
  have HY := Lib.hid hY
  have HW := Lib.hid (fun k (h0 : 0 ≤ k) (h1 : k < 4294967296) W => word_any d hd k W h0 h1)
  have HWU := Lib.hid (fun k => datw_u32 d hd k)
  generalize hld : d.word = ld at *
  obtain ⟨R, hR⟩ : ∃ R, runS ld ps = R := ⟨_, rfl⟩
  rw [hR]
  unfold runS at hR
  have HR0 := Lib.hid hR
  clear hld hp hok hM h hY hbA hR
  obtain ⟨nr, arch, ip, a0, a1, a2, a3, a4, a5⟩ := d
  have hx := (Ext.refl w).alloc (.cells #[.int .u32 nr, .int .u32 arch, .int .u64 ip, .int .u64 a0, .int .u64 a1, .int .u64 a2, .int .u64 a3, .int .u64 a4, .int .u64 a5] 53)
  have hbd := Blk.new w 53 #[.int .u32 nr, .int .u32 arch, .int .u64 ip, .int .u64 a0, .int .u64 a1, .int .u64 a2, .int .u64 a3, .int .u64 a4, .int .u64 a5]
  dsimp only [Dat.val] at HW
  go_enter Try.func37, Try.ntmps37
  go_wp2_with fail
  refine (H.out _ (HM.out.ext hx)).mono ?_
  rintro e w1 ⟨rfl, hx1⟩
  have HB1 := Lib.hid (hbd.ext hx1)
  replace hx := hx.trans hx1
  generalize w.heap.size = g at *
  clear hx1 hbd H
  go_wp2_with fail
  go_loopw [5, 7, 8] (fun st x at_ W => ∃ (k j : Nat) (y : Int), (k < n ∧ j ≤ k ∧ U32 y ∧ (runAt ld ps k y).1 = R.1 ∧ j + (runAt ld ps k y).2 = R.2) ∧ Ext w1 W ∧ st = .int .i64 j ∧ x = .int .u32 y ∧ at_ = .int .i64 k) (fun _ _ at_ _ => n - (intOf at_).toNat)
  case atStart => exact ⟨0, 0, 0, ⟨n1, Nat.le_refl _, ⟨by decide, by decide⟩, by rw [HR0.out], by rw [HR0.out, Nat.zero_add]⟩, Ext.refl _, rfl, rfl, rfl⟩
  case round =>
    obtain ⟨k, j, y, ⟨hk, hjk, hy, hr1, hr2⟩, hz, rfl, rfl, rfl⟩ := hrel
    have hkp : k < ps.length := by rw [HP.out]; exact hk
    have hK := kind_of (HY.out.one k hkp)
    have ho := HO.out _ (List.getElem_mem hkp)
    have hgd := getD_sy hkp
    obtain ⟨q0, q1, q2, q3⟩ := sym_cells (HM.out.ext (hx.trans hz)) hkp
    have HRET := Lib.hid (fun e => runAt_ret HY.out ld k y hkp e)
    have HNX := Lib.hid (fun e => runAt_next HY.out ld k y hkp e)
    have HLT := Lib.hid (fun e => nxt_lt HY.out ld k y hkp e)
    rw [HP.out] at hK
    rw [hgd] at hK HRET HNX HLT
    clear hgd
    generalize ps[k] = s at *
    have HHO := Lib.hid (fun W => holdsI s y ho.2.1 hy W)
    obtain ⟨hc0, hk0, -, -⟩ := ho
    have HHK := Lib.hid (rfl : holdS s y = holdS s y)
    have HNF : s.code ≠ 6 → ∀ k' y', nxt ld s k y = (k', y') → U32 y' → k' < n ∧ k < k' ∧ U32 y' ∧ (runAt ld ps k' y').1 = R.1 ∧ j + 1 + (runAt ld ps k' y').2 = R.2 := fun h6 k' y' e hu => by
      have a := HNX.out h6
      have b := HLT.out h6
      rw [e] at a b
      dsimp only at a b
      rw [a] at hr1 hr2
      have e3 : (bump (runAt ld ps k' y')).2 = (runAt ld ps k' y').2 + 1 := rfl
      exact ⟨by have := b.2.2; rw [HP.out] at this; exact this, b.2.1, hu, hr1, by omega⟩
    have HRF : s.code = 6 → s.k = R.1 ∧ ((j + 1 : Nat) : Int) = (R.2 : Int) := fun h6 => by
      rw [HRET.out h6] at hr1 hr2
      exact ⟨hr1, by omega⟩
    obtain ⟨co, kk, th, el⟩ := s
    unfold Sy.val Sy.cells at HHO
    dsimp only at HHO HNF HRF q0 q1 q2 q3 hc0 hk0
    obtain ⟨y0, y1⟩ := hy
    obtain ⟨hk0, hk1⟩ := hk0
    have k0 : (0 : Int) ≤ k := by omega
    have k1 : (k : Int) < n := by omega
    have k2 : (k : Int) ≤ 131072 := by omega
    have j0 : (0 : Int) ≤ j := by omega
    have j1 : (j : Int) ≤ 131072 := by omega
    have bs := Blk.new wr 32 #[.int .u16 co, .int .u32 kk, .int .i64 th, .int .i64 el]
    have hE0 := (Ext.refl wr).alloc (.cells #[.int .u16 co, .int .u32 kk, .int .i64 th, .int .i64 el] 32)
    have HNX2 := Lib.hid HNF
    have HRF2 := Lib.hid HRF
    clear hr1 hr2 HNF HRF HRET HNX HLT hkp
    have s0 := (bs).cell 0
    have s1 := (bs).cell 1
    have s2 := (bs).cell 2
    have s3 := (bs).cell 3
    by_cases h6 : co = 6
    · have e1 : (co == 32) = false := by simp; omega
      have e2 : (co == 84) = false := by simp; omega
      have e3 : (co == 6) = true := by simpa using h6
      have HA := Lib.hid (HRF2.out h6)
      clear h6 hK
      go_wp2_with fail
      go_ret3
      exact ⟨by rw [← HA.out.1, ← HA.out.2]; rfl, (hx.trans hz).trans hE0⟩
    · have e3 : (co == 6) = false := by simpa using h6
      by_cases h32 : co = 32
      · have e1 : (co == 32) = true := by simpa using h32
        have HN := Lib.hid (HNX2.out h6 (k + 1) (ld kk) (by unfold nxt; rw [if_pos h32]) (HWU.out kk))
        have hb := HB1.out.ext (hz.trans hE0)
        have d0 := hb.cell 0
        have d1 := hb.cell 1
        have d2 := hb.cell 2
        have d3 := hb.cell 3
        have d4 := hb.cell 4
        have d5 := hb.cell 5
        have d6 := hb.cell 6
        have d7 := hb.cell 7
        have d8 := hb.cell 8
        clear h6 h32 hK HNX2 HRF2
        go_wp2_with fail
        refine (HW.out kk hk0 hk1 _).mono ?_
        rintro e w7 ⟨rfl, hx7⟩
        go_wp2_with fail
        go_roundw
        case rel => exact ⟨k + 1, j + 1, _, ⟨HN.out.1, by omega, HN.out.2.2⟩, (hz.trans hE0).trans hx7, by go_num, rfl, by go_num⟩
        case measure => simp [intOf]; omega
      · have e1 : (co == 32) = false := by simpa using h32
        by_cases h84 : co = 84
        · have e2 : (co == 84) = true := by simpa using h84
          have HN := Lib.hid (HNX2.out h6 (k + 1) (bits .and .u32 y kk) (by unfold nxt; rw [if_neg h32, if_pos h84]) (and_u32 _ _))
          clear h6 h32 h84 hK HNX2 HRF2
          go_wp2_with fail
          go_roundw
          case rel => exact ⟨k + 1, j + 1, _, ⟨HN.out.1, by omega, HN.out.2.2⟩, hz.trans hE0, by go_num, rfl, by go_num⟩
          case measure => simp [intOf]; omega
        · have e2 : (co == 84) = false := by simpa using h84
          have hb : 0 ≤ th ∧ 0 ≤ el := by
            rcases hK with ⟨q, _, _, _⟩ | ⟨q, _, _⟩ | ⟨q, _, _⟩ | ⟨q, q0, q3, q1⟩ | ⟨q, q1, q2⟩
            · exact absurd q h32
            · exact absurd q h84
            · exact absurd q h6
            · dsimp only at q1 q3; omega
            · dsimp only at q1 q2; omega
          obtain ⟨t, rfl⟩ : ∃ t : Nat, th = t := ⟨th.toNat, by omega⟩
          obtain ⟨u, rfl⟩ : ∃ t : Nat, el = t := ⟨el.toNat, by omega⟩
          rcases hh : holdS ⟨co, kk, (t : Int), (u : Int)⟩ y with _ | _
          · have HN := Lib.hid (HNX2.out h6 u y (by unfold nxt; rw [if_neg h32, if_neg h84, hh]; rfl) ⟨y0, y1⟩)
            rw [hh] at HHO
            clear h6 h32 h84 hK HNX2 HRF2 hb hh HHK
            go_wp2_with fail
            refine (HHO.out _).mono ?_
            rintro e w7 ⟨rfl, hx7⟩
            go_wp2_with fail
            go_roundw
            case rel => exact ⟨u, j + 1, y, ⟨HN.out.1, by have := HN.out.2.1; omega, HN.out.2.2⟩, (hz.trans hE0).trans hx7, by go_num, rfl, rfl⟩
            case measure => have := HN.out.2.1; simp [intOf]; omega
          · have HN := Lib.hid (HNX2.out h6 t y (by unfold nxt; rw [if_neg h32, if_neg h84, hh]; rfl) ⟨y0, y1⟩)
            rw [hh] at HHO
            clear h6 h32 h84 hK HNX2 HRF2 hb hh HHK
            go_wp2_with fail
            refine (HHO.out _).mono ?_
            rintro e w7 ⟨rfl, hx7⟩
            have bs7 := bs.ext hx7
            clear s0 s1 s2 s3
            have s0 := (bs7).cell 0
            have s1 := (bs7).cell 1
            have s2 := (bs7).cell 2
            have s3 := (bs7).cell 3
            go_wp2_with fail
            go_roundw
            case rel => exact ⟨t, j + 1, y, ⟨HN.out.1, by have := HN.out.2.1; omega, HN.out.2.2⟩, (hz.trans hE0).trans hx7, by go_num, rfl, rfl⟩
            case measure => have := HN.out.2.1; simp [intOf]; omega
end Go.Proofs.Ytjlhfmedaandeaa
