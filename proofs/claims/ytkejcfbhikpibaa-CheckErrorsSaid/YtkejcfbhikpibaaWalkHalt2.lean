import Derived.Test.YtkejcfbhikpibaaPath2
import Derived.Test.YtkejcfbhikpibaaAwake6
import Derived.Test.YtkejcfbhikpibaaVm12
/- The law CheckErrors, walked. -/
namespace Go.Proofs.Ytkejcfbhikpibaa
open Go.RowKit Go.ChangeShapes Go.WideShapes
set_option linter.unusedVariables false
set_option linter.unusedSimpArgs false

set_option maxHeartbeats 4000000 in
set_option maxRecDepth 100000 in
theorem checkErrors_walk (A : Option Addr) (n c : Nat) (ps : List Ins) (hp : ps.length = n) (hm : n ≤ c ∧ c ≤ maxLen) (hok : ∀ i ∈ ps, i.ok) {w : World} (hM : InM w A (pc ps)) (d : Dat) (hd : d.ok) (_ : World) :
    Calls Try.prog 10 #[.slice A n c, d.val] w fun e w' => e = .returned (.bool true) ∧ Ext w w' := by
  have HM := Lib.hid hM
  have HA := Lib.hid (fun W => awake06 W)
  by_cases big : 300 < n
  · have d1 : (300 : Int) < n := by omega
    clear hp hm hok hM hd
    obtain ⟨nr, arch, ip, a0, a1, a2, a3, a4, a5⟩ := d
    have bd : Blk (w.alloc (.cells #[.int .u32 nr, .int .u32 arch, .int .u64 ip, .int .u64 a0, .int .u64 a1, .int .u64 a2, .int .u64 a3, .int .u64 a4, .int .u64 a5] 36)) w.heap.size 36 #[.int .u32 nr, .int .u32 arch, .int .u64 ip, .int .u64 a0, .int .u64 a1, .int .u64 a2, .int .u64 a3, .int .u64 a4, .int .u64 a5] := Blk.new w _ _
    have hx := (Ext.refl w).alloc (.cells #[.int .u32 nr, .int .u32 arch, .int .u64 ip, .int .u64 a0, .int .u64 a1, .int .u64 a2, .int .u64 a3, .int .u64 a4, .int .u64 a5] 36)
    clear bd
    go_enter Try.func10, Try.ntmps10
    go_wp2_with fail
    refine (HA.out _).mono ?_
    rintro e w1 ⟨rfl, hx1⟩
    go_wp2_with fail
    go_ret
    exact ⟨rfl, hx.trans hx1⟩
  have d1 : ¬ (300 : Int) < n := by omega
  have hn' : ¬ 4096 < ps.length := by omega
  have C1 := Lib.hid (fun W' h => checkCheck A n c ps W' hp hok (by omega) h)
  have H2 := Lib.hid (fun W h => vmRun A n c ps hp hok (by omega) d hd W h)
  have H3 := Lib.hid (fun W h => vmTrace A n c ps hp hok (by omega) d hd W h)
  have HPA := run_path d ps hok hn'
  have FIN := Lib.hid (fun (h : (atE ps).2 = 0) => And.intro (run_halts d ps hok h).1 (taken_set ps hok (taken_of ps h) _ HPA))
  have HG := (run_good d ps).len
  rw [hp] at HG
  obtain ⟨⟨rx, rm, tr, er⟩, hR⟩ : ∃ R, runR d ps = R := ⟨_, rfl⟩
  rw [hR] at H2 H3 HG HPA FIN
  dsimp only at H2 H3 HG HPA FIN
  have LT := Lib.hid (fun k hk => HPA.lt k hk)
  have YES := Lib.hid (fun k co jt jf kn hI h hk => wrote_yes32 ps hok tr k co jt jf kn hI h hk)
  have OKD := Lib.hid (fun k => getD_ok ps hok k)
  have WLT := Lib.hid (fun k => wrote_lt ps hok tr k)
  have HP := Lib.hid hp
  generalize hlen : tr.length = len at *
  have HLEN := Lib.hid hlen
  have l1 : (len : Int) ≤ 300 := by omega
  have LN := Lib.hid HG
  have HW0 := Lib.hid (show wrote ps tr 0 = 0 from rfl)
  have HU0 := Lib.hid (show unsetN ps tr 0 = false from rfl)
  clear hp hm hok hM hd HPA hlen HG big hn' hR
  obtain ⟨nr, arch, ip, a0, a1, a2, a3, a4, a5⟩ := d
  dsimp only [Dat.val] at H2 H3
  have bd : Blk (w.alloc (.cells #[.int .u32 nr, .int .u32 arch, .int .u64 ip, .int .u64 a0, .int .u64 a1, .int .u64 a2, .int .u64 a3, .int .u64 a4, .int .u64 a5] 36)) w.heap.size 36 #[.int .u32 nr, .int .u32 arch, .int .u64 ip, .int .u64 a0, .int .u64 a1, .int .u64 a2, .int .u64 a3, .int .u64 a4, .int .u64 a5] := Blk.new w _ _
  have hx := (Ext.refl w).alloc (.cells #[.int .u32 nr, .int .u32 arch, .int .u64 ip, .int .u64 a0, .int .u64 a1, .int .u64 a2, .int .u64 a3, .int .u64 a4, .int .u64 a5] 36)
  go_enter Try.func10, Try.ntmps10
  go_wp2_with fail
  refine (HA.out _).mono ?_
  rintro e w1 ⟨rfl, hx'⟩
  replace hx := hx.trans hx'
  replace bd := bd.ext hx'
  clear hx' HA
  have r0 := (bd).cell 0
  have r1 := (bd).cell 1
  have r2 := (bd).cell 2
  have r3 := (bd).cell 3
  have r4 := (bd).cell 4
  have r5 := (bd).cell 5
  have r6 := (bd).cell 6
  have r7 := (bd).cell 7
  have r8 := (bd).cell 8
  go_wp2_with fail
  clear r0 r1 r2 r3 r4 r5 r6 r7 r8
  refine (H2.out _ (HM.out.ext hx)).mono ?_
  rintro e w2 ⟨rfl, hx'⟩
  replace hx := hx.trans hx'
  replace bd := bd.ext hx'
  clear hx' H2
  have r0 := (bd).cell 0
  have r1 := (bd).cell 1
  have r2 := (bd).cell 2
  have r3 := (bd).cell 3
  have r4 := (bd).cell 4
  have r5 := (bd).cell 5
  have r6 := (bd).cell 6
  have r7 := (bd).cell 7
  have r8 := (bd).cell 8
  go_wp2_with fail
  clear r0 r1 r2 r3 r4 r5 r6 r7 r8
  refine (H3.out _ (HM.out.ext hx)).mono ?_
  rintro e w3 ⟨L, cl, rfl, hL, hx'⟩
  replace hx := hx.trans hx'
  have HL := Lib.hid hL
  clear hx' hL bd H3
  go_wp2_with fail
  go_loopw [9, 10, 11] (fun wr un it W => ∃ k : Nat, k ≤ len ∧ wr = .int .u32 (wrote ps tr k) ∧ un = .bool (unsetN ps tr k) ∧ it = .int .i64 k ∧ Ext w3 W) (fun _ _ it _ => len - (intOf it).toNat)
  case atStart => exact ⟨0, Nat.zero_le _, by rw [HW0.out]; rfl, by rw [HU0.out], rfl, Ext.refl _⟩
  case round =>
    obtain ⟨k, hk, rfl, rfl, rfl, hy⟩ := hrel
    by_cases hlt : k < len
    · have hkp : k < (ints tr).length := by rw [ints_length, HLEN.out]; exact hlt
      have hvp := LT.out k hlt
      have hvn : tr.getD k 0 < n := by rw [← HP.out]; exact hvp
      obtain ⟨b9, o9, rfl, _, h9⟩ := (HL.out.ext hy).num hkp
      rw [ints_get] at h9
      obtain ⟨bA, oA, rfl, _⟩ := prog_some HM.out (by omega)
      have hgd : ps.getD (tr.getD k 0) zeroI = ps[tr.getD k 0] := by rw [List.getD_eq_getElem?_getD, List.getElem?_eq_getElem hvp]; rfl
      have hki := (OKD.out (tr.getD k 0)).2.2.2.1
      obtain ⟨q0, q1, q2, q3⟩ := prog_cells (HM.out.ext (hx.trans hy)) hvp
      rw [hgd] at hki
      have WY0 := YES.out k
      have WN0 := wrote_not ps tr k
      have UY0 := unset_yes ps tr k
      have UN0 := unset_no ps tr k
      rw [hgd] at WY0 WN0 UY0 UN0
      generalize ps[tr.getD k 0] = I at *
      obtain ⟨co, jt, jf, kk⟩ := I
      dsimp only at q0 q1 q2 q3 hki
      obtain ⟨kn, rfl⟩ : ∃ kn : Nat, kk = kn := ⟨kk.toNat, by omega⟩
      have WY := Lib.hid (WY0 co jt jf kn rfl)
      have WN := Lib.hid (WN0 co jt jf kn rfl)
      have UY := Lib.hid (UY0 co jt jf kn rfl)
      have UN := Lib.hid (UN0 co jt jf kn rfl)
      have wlt := WLT.out k
      clear WY0 WN0 UY0 UN0 hgd hki hkp hvp
      generalize tr.getD k 0 = v at *
      have y2 : decide ((v : Int) < n) = true := by simp; omega
      have y0 : (v : Int) < n := by omega
      have y00 : (0 : Int) ≤ v := by omega
      have k0 : (0 : Int) ≤ k := by omega
      have k1 : (k : Int) < len := by omega
      have k3 : (k : Int) < 300 := by omega
      have e1 : (0 : Int) ≤ wrote ps tr k := by omega
      have e2 : (wrote ps tr k : Int) < 65536 := by omega
      generalize hWK : (wrote ps tr k : Int) = WK at *
      have HWK := Lib.hid hWK
      generalize unsetN ps tr k = UB at *
      clear hWK wlt
      have HY := Lib.hid hy
      by_cases c96 : co = 96 ∨ co = 97
      · have hw := Lib.hid (WN.out (by rcases c96 with rfl | rfl <;> rfl))
        by_cases h16 : kn < 16
        · have k16 : (kn : Int) < 16 := by omega
          have hu := Lib.hid (UY.out (by rcases c96 with rfl | rfl <;> rfl) h16)
          have ht : (WK / 2 ^ kn).tmod 2 = WK / 2 ^ kn % 2 := Int.tmod_eq_emod_of_nonneg (Int.ediv_nonneg e1 (Int.le_of_lt (Int.pow_pos (by decide))))
          rcases hz : (WK / 2 ^ kn % 2 == 0) with _ | _
          · have HZ := Lib.hid hz
            rw [← ht] at hz
            clear ht
            rcases c96 with rfl | rfl
            all_goals
              go_wp2_with fail
              go_roundw
              case rel => exact ⟨k + 1, by omega, by rw [hw.out, HWK.out], by rw [hu.out, HZ.out, Bool.or_false], by go_num, hy.alloc _⟩
              case measure => simp [intOf]; omega
          · have HZ := Lib.hid hz
            rw [← ht] at hz
            clear ht
            rcases c96 with rfl | rfl
            all_goals
              go_wp2_with fail
              go_roundw
              case rel => exact ⟨k + 1, by omega, by rw [hw.out, HWK.out], by rw [hu.out, HZ.out, Bool.or_true], by go_num, hy.alloc _⟩
              case measure => simp [intOf]; omega
        · have k16 : ¬ (kn : Int) < 16 := by omega
          have hu := Lib.hid (UN.out (by simp [k16]))
          rcases c96 with rfl | rfl
          all_goals
            go_wp2_with fail
            go_roundw
            case rel => exact ⟨k + 1, by omega, by rw [hw.out, HWK.out], by rw [hu.out], by go_num, hy.alloc _⟩
            case measure => simp [intOf]; omega
      · have e96 : (co == 96) = false := by simp; omega
        have e97 : (co == 97) = false := by simp; omega
        have hu := Lib.hid (UN.out (by rw [e96, e97]; rfl))
        by_cases c2 : co = 2 ∨ co = 3
        · by_cases h16 : kn < 16
          · have k16 : (kn : Int) < 16 := by omega
            have hw := Lib.hid (WY.out (by rcases c2 with rfl | rfl <;> rfl) h16)
            have hpw := pow32_wrap kn h16
            generalize ((2 ^ kn : Nat) : Int) = pw at *
            clear c96 e96 e97
            rcases c2 with rfl | rfl
            all_goals
              go_wp2_with fail
              go_roundw
              case rel => exact ⟨k + 1, by omega, by rw [← hw.out], by rw [hu.out], by go_num, hy.alloc _⟩
              case measure => simp [intOf]; omega
          · have k16 : ¬ (kn : Int) < 16 := by omega
            have hw := Lib.hid (WN.out (by simp [k16]))
            clear c96 e96 e97
            rcases c2 with rfl | rfl
            all_goals
              go_wp2_with fail
              go_roundw
              case rel => exact ⟨k + 1, by omega, by rw [hw.out, HWK.out], by rw [hu.out], by go_num, hy.alloc _⟩
              case measure => simp [intOf]; omega
        · have e2 : (co == 2) = false := by simp; omega
          have e3 : (co == 3) = false := by simp; omega
          have hw := Lib.hid (WN.out (by rw [e2, e3]; rfl))
          go_wp2_with fail
          go_roundw
          case rel => exact ⟨k + 1, by omega, by rw [hw.out, HWK.out], by rw [hu.out], by go_num, hy.alloc _⟩
          case measure => simp [intOf]; omega
    · obtain rfl : k = len := by omega
      have hz := hx.trans hy
      have FF := FIN
      generalize unsetN ps tr k = UB at *
      clear hy HL LT YES
      by_cases ea : (atE ps).2 = 0
      · obtain ⟨h1, h2⟩ := FF.out ea
        subst h1
        subst h2
        go_wp2_with fail
        go_ret
        exact ⟨rfl, hz⟩
      · have s1 : ((atE ps).2 != 0) = true := by simpa using ea
        clear FIN FF ea
        generalize (atE ps).2 = x at *
        rcases he : (er == 0) with _ | _
        · go_wp2_with fail
          refine (C1.out _ (HM.out.ext hz)).mono ?_
          rintro e w2' ⟨rfl, hx'⟩
          go_wp2_with fail
          go_ret
          exact ⟨rfl, hz.trans hx'⟩
        · cases UB with
          | true =>
            go_wp2_with fail
            refine (C1.out _ (HM.out.ext hz)).mono ?_
            rintro e w2' ⟨rfl, hx'⟩
            go_wp2_with fail
            go_ret
            exact ⟨rfl, hz.trans hx'⟩
          | false =>
            go_wp2_with fail
            go_ret
            exact ⟨rfl, hz⟩
end Go.Proofs.Ytkejcfbhikpibaa
