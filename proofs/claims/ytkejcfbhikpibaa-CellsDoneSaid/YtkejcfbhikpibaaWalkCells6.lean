import Derived.Test.YtkejcfbhikpibaaPath2
import Derived.Test.YtkejcfbhikpibaaAwake5
import Derived.Test.YtkejcfbhikpibaaVm12
/- The law CellsDone, walked. -/
namespace Go.Proofs.Ytkejcfbhikpibaa
open Go.RowKit Go.ChangeShapes Go.WideShapes
set_option linter.unusedVariables false
set_option linter.unusedSimpArgs false

set_option maxHeartbeats 4000000 in
set_option maxRecDepth 100000 in
theorem cellsDone_walk (A : Option Addr) (n c : Nat) (ps : List Ins) (hp : ps.length = n) (hm : n ≤ c ∧ c ≤ maxLen) (hok : ∀ i ∈ ps, i.ok) {w : World} (hM : InM w A (pc ps)) (d : Dat) (hd : d.ok) (_ : World) :
    Calls Try.prog 11 #[.slice A n c, d.val] w fun e w' => e = .returned (.bool true) ∧ Ext w w' := by
  have HM := Lib.hid hM
  have HA := Lib.hid (fun W => awake05 W)
  by_cases big : 300 < n
  · have d1 : (300 : Int) < n := by omega
    clear hp hm hok hM hd
    obtain ⟨nr, arch, ip, a0, a1, a2, a3, a4, a5⟩ := d
    have bd : Blk (w.alloc (.cells #[.int .u32 nr, .int .u32 arch, .int .u64 ip, .int .u64 a0, .int .u64 a1, .int .u64 a2, .int .u64 a3, .int .u64 a4, .int .u64 a5] 36)) w.heap.size 36 #[.int .u32 nr, .int .u32 arch, .int .u64 ip, .int .u64 a0, .int .u64 a1, .int .u64 a2, .int .u64 a3, .int .u64 a4, .int .u64 a5] := Blk.new w _ _
    have hx := (Ext.refl w).alloc (.cells #[.int .u32 nr, .int .u32 arch, .int .u64 ip, .int .u64 a0, .int .u64 a1, .int .u64 a2, .int .u64 a3, .int .u64 a4, .int .u64 a5] 36)
    clear bd
    go_enter Try.func11, Try.ntmps11
    go_wp2_with fail
    refine (HA.out _).mono ?_
    rintro e w1 ⟨rfl, hx1⟩
    go_wp2_with fail
    go_ret
    exact ⟨rfl, hx.trans hx1⟩
  have d1 : ¬ (300 : Int) < n := by omega
  have hn' : ¬ 4096 < ps.length := by omega
  have R := Lib.hid (fun W' h => reachedI A n c ps W' hp hok h)
  have S := Lib.hid (fun W' h => sureI A n c ps W' hp hok h)
  have T := Lib.hid (fun W h => vmTrace A n c ps hp hok (by omega) d hd W h)
  have NN := Lib.hid (fun (x : Int) W' h => nextI A n c ps x W' hp (by omega) hok h)
  have lr : (reachT ps).length = n := by rw [reach_same ps hok]; unfold reachL; rw [if_neg hn', rupto_length, hp]
  have ls : (sureT ps).length = n := by unfold sureT; rw [if_neg hn', masksOf_len, hp]
  rw [lr] at R
  rw [ls] at S
  have HPA := run_path d ps hok hn'
  have HG := (run_good d ps).len
  rw [hp] at HG
  generalize (runR d ps).tr = tr at *
  have SU := Lib.hid (fun k hk => path_sure ps hok hn' tr HPA k hk)
  have RE := Lib.hid (fun k hk => path_reach ps hok hn' tr HPA k hk)
  have NX := Lib.hid (fun k hk => HPA.next k hk)
  have LT := Lib.hid (fun k hk => HPA.lt k hk)
  have YES := Lib.hid (fun k co jt jf kn hI h hk => wrote_yes ps hok tr k co jt jf kn hI h hk)
  have OKD := Lib.hid (fun k => getD_ok ps hok k)
  have HP := Lib.hid hp
  have HLR := Lib.hid lr
  have HLS := Lib.hid ls
  generalize hlen : tr.length = len at *
  have HLEN := Lib.hid hlen
  have l1 : (len : Int) ≤ 300 := by omega
  have LN := Lib.hid HG
  generalize reachT ps = rl at *
  generalize sureT ps = sl at *
  have s1 : ((n : Int) != n) = false := by simp
  have hw0 : wrote ps tr 0 = 0 := rfl
  have HW0 := Lib.hid hw0
  clear hp hm hok hM hd lr ls HPA hlen HG big hn' hw0
  obtain ⟨nr, arch, ip, a0, a1, a2, a3, a4, a5⟩ := d
  dsimp only [Dat.val] at T
  have bd : Blk (w.alloc (.cells #[.int .u32 nr, .int .u32 arch, .int .u64 ip, .int .u64 a0, .int .u64 a1, .int .u64 a2, .int .u64 a3, .int .u64 a4, .int .u64 a5] 36)) w.heap.size 36 #[.int .u32 nr, .int .u32 arch, .int .u64 ip, .int .u64 a0, .int .u64 a1, .int .u64 a2, .int .u64 a3, .int .u64 a4, .int .u64 a5] := Blk.new w _ _
  have hx := (Ext.refl w).alloc (.cells #[.int .u32 nr, .int .u32 arch, .int .u64 ip, .int .u64 a0, .int .u64 a1, .int .u64 a2, .int .u64 a3, .int .u64 a4, .int .u64 a5] 36)
  go_enter Try.func11, Try.ntmps11
  go_wp2_with fail
  refine (HA.out _).mono ?_
  rintro e w1 ⟨rfl, hx'⟩
  replace hx := hx.trans hx'
  replace bd := bd.ext hx'
  clear hx'
  go_wp2_with fail
  refine wp_region_mono rfl [.is ?va0, .row n (rl.map Value.bool), .is ?va2, .row n (nums .u16 sl), .is ?va4, .is ?va5, .row len (nums .i64 (ints tr)), .row n (rl.map Value.bool), .row n (nums .u16 sl), .row len (nums .i64 (ints tr))] (by kernel_rfl) (by kernel_rfl) ?Aa ?hAa ⟨?oa0, ?oa1, ?oa2, ?oa3, ?oa4, ?oa5, ?oa6, ?oa7, ?oa8, ?oa9, trivial⟩ ?fina
  case hAa => (intro x; simp only [fillOps, Act.put, List.setIfInBounds_toArray, List.set_cons_zero, List.set_cons_succ, Nat.reduceAdd]; rfl)
  case oa0 =>
    intro x U hU
    simp only [depV, One, dstOf, readDst, asBool, VP.is, VP.any, VP.row, VP.ptr, VP.blk, VP.ex, VP.and, VP.of, List.getD_cons_zero, List.getD_cons_succ]
    go_wp2_with (fail)
    refine done_mk ?_ rfl (Ext.refl _)
    rfl
  case oa1 =>
    intro x U hU
    simp only [depV, One, dstOf, readDst, asBool, VP.is, VP.any, VP.row, VP.ptr, VP.blk, VP.ex, VP.and, VP.of, List.getD_cons_zero, List.getD_cons_succ]
    intro d0
    simp only [d0]
    go_wp2_with ((refine (R.out _ (HM.out.ext (hx.trans hU))).mono ?_; rintro e w9 ⟨P9, rfl, h9, hx9⟩))
    refine done_mk ?_ rfl (hx9)
    exact ⟨_, _, rfl, h9⟩
  case oa2 =>
    intro x U hU
    simp only [depV, One, dstOf, readDst, asBool, VP.is, VP.any, VP.row, VP.ptr, VP.blk, VP.ex, VP.and, VP.of, List.getD_cons_zero, List.getD_cons_succ]
    go_wp2_with (fail)
    refine done_mk ?_ rfl (Ext.refl _)
    rfl
  case oa3 =>
    intro x U hU
    simp only [depV, One, dstOf, readDst, asBool, VP.is, VP.any, VP.row, VP.ptr, VP.blk, VP.ex, VP.and, VP.of, List.getD_cons_zero, List.getD_cons_succ]
    intro d2
    simp only [d2]
    go_wp2_with ((refine (S.out _ (HM.out.ext (hx.trans hU))).mono ?_; rintro e w9 ⟨P9, rfl, h9, hx9⟩))
    refine done_mk ?_ rfl (hx9)
    exact ⟨_, _, rfl, h9⟩
  case oa4 =>
    intro x U hU
    simp only [depV, One, dstOf, readDst, asBool, VP.is, VP.any, VP.row, VP.ptr, VP.blk, VP.ex, VP.and, VP.of, List.getD_cons_zero, List.getD_cons_succ]
    go_wp2_with (fail)
    refine done_mk ?_ rfl (Ext.refl _)
    rfl
  case oa5 =>
    intro x U hU
    simp only [depV, One, dstOf, readDst, asBool, VP.is, VP.any, VP.row, VP.ptr, VP.blk, VP.ex, VP.and, VP.of, List.getD_cons_zero, List.getD_cons_succ]
    have bu := bd.ext hU
    have r0 := bu.cell 0
    have r1 := bu.cell 1
    have r2 := bu.cell 2
    have r3 := bu.cell 3
    have r4 := bu.cell 4
    have r5 := bu.cell 5
    have r6 := bu.cell 6
    have r7 := bu.cell 7
    have r8 := bu.cell 8
    go_wp2_with (fail)
    refine done_mk ?_ rfl (Ext.refl _)
    rfl
  case oa6 =>
    intro x U hU
    simp only [depV, One, dstOf, readDst, asBool, VP.is, VP.any, VP.row, VP.ptr, VP.blk, VP.ex, VP.and, VP.of, List.getD_cons_zero, List.getD_cons_succ]
    intro d4
    intro d5
    simp only [d4, d5]
    go_wp2_with ((refine (T.out _ (HM.out.ext (hx.trans hU))).mono ?_; rintro e w9 ⟨P9, c9, rfl, h9, hx9⟩))
    refine done_mk ?_ rfl (hx9)
    exact ⟨_, _, rfl, h9⟩
  case oa7 =>
    intro x U hU
    simp only [depV, One, dstOf, readDst, asBool, VP.is, VP.any, VP.row, VP.ptr, VP.blk, VP.ex, VP.and, VP.of, List.getD_cons_zero, List.getD_cons_succ]
    rintro ⟨A1, c1, d1, m1⟩
    simp only [d1]
    go_wp2_with (fail)
    refine done_mk ?_ rfl (Ext.refl _)
    exact ⟨_, _, rfl, m1⟩
  case oa8 =>
    intro x U hU
    simp only [depV, One, dstOf, readDst, asBool, VP.is, VP.any, VP.row, VP.ptr, VP.blk, VP.ex, VP.and, VP.of, List.getD_cons_zero, List.getD_cons_succ]
    rintro ⟨A3, c3, d3, m3⟩
    simp only [d3]
    go_wp2_with (fail)
    refine done_mk ?_ rfl (Ext.refl _)
    exact ⟨_, _, rfl, m3⟩
  case oa9 =>
    intro x U hU
    simp only [depV, One, dstOf, readDst, asBool, VP.is, VP.any, VP.row, VP.ptr, VP.blk, VP.ex, VP.and, VP.of, List.getD_cons_zero, List.getD_cons_succ]
    rintro ⟨A6, c6, d6, m6⟩
    simp only [d6]
    go_wp2_with (fail)
    refine done_mk ?_ rfl (Ext.refl _)
    exact ⟨_, _, rfl, m6⟩
  case fina =>
    intro x U hU
    simp only [allV, depV, One, dstOf, readDst, asBool, VP.is, VP.any, VP.row, VP.ptr, VP.blk, VP.ex, VP.and, VP.of, List.getD_cons_zero, List.getD_cons_succ]
    intro d0
    rintro ⟨A1, c1, d1, m1⟩
    intro d2
    rintro ⟨A3, c3, d3, m3⟩
    intro d4
    intro d5
    rintro ⟨A6, c6, d6, m6⟩
    rintro ⟨A7, c7, d7, m7⟩
    rintro ⟨A8, c8, d8, m8⟩
    rintro ⟨A9, c9, d9, m9⟩
    simp only [d0, d1, d2, d3, d4, d5, d6, d7, d8, d9]
    clear d0 d1 d2 d3 d4 d5 d6 d7 d8 d9
    have hx2 := hx.trans hU
    clear hx hU bd m1 m3 m6 R S T HA
    go_wp2_with fail
    go_loopw [8, 9] (fun wr it W => ∃ k : Nat, k ≤ len ∧ wr = .int .u16 (wrote ps tr k) ∧ it = .int .i64 k ∧ Ext U W) (fun _ it _ => len - (intOf it).toNat)
    case atStart => exact ⟨0, Nat.zero_le _, by rw [HW0.out]; rfl, rfl, Ext.refl _⟩
    case round =>
      obtain ⟨k, hk, rfl, rfl, hy⟩ := hrel
      by_cases hlt : k < len
      · have hkt : k < tr.length := by rw [HLEN.out]; exact hlt
        have hkp : k < (ints tr).length := by rw [ints_length]; exact hkt
        have hvp := LT.out k hlt
        have hvn : tr.getD k 0 < n := by rw [← HP.out]; exact hvp
        obtain ⟨b9, o9, rfl, _, h9⟩ := (m9.ext hy).num hkp
        rw [ints_get] at h9
        have C9 := Lib.hid (fun W' (h : Ext U W') j (hj : j < len) => by
          have hjp : j < (ints tr).length := by rw [ints_length, HLEN.out]; exact hj
          have := (m9.ext h).cell (nums_at hjp)
          rw [ints_get] at this
          exact this)
        obtain ⟨b7, o7, rfl, _, _⟩ := m7.at_ (k := tr.getD k 0) (by rw [List.length_map, HLR.out]; exact hvn)
        obtain ⟨b8, o8, rfl, _, _⟩ := m8.num (k := tr.getD k 0) (by rw [HLS.out]; exact hvn)
        obtain ⟨bA, oA, rfl, _⟩ := prog_some HM.out (by omega)
        obtain ⟨x, hx8, _, hxs⟩ := SU.out k hlt
        have hre := RE.out k hlt
        have h7 : wr.cell? ⟨b7, o7 + tr.getD k 0, none⟩ = some (.bool true) := (m7.ext hy).cell (by
          have hl : tr.getD k 0 < rl.length := by rw [HLR.out]; exact hvn
          rw [List.getD_eq_getElem?_getD, List.getElem?_eq_getElem hl] at hre
          simp only [Option.getD_some] at hre
          rw [List.getElem?_map, List.getElem?_eq_getElem hl, hre]; rfl)
        have h8 : wr.cell? ⟨b8, o8 + tr.getD k 0, none⟩ = some (.int .u16 x) := (m8.ext hy).cell (by
          have hl : tr.getD k 0 < sl.length := by rw [HLS.out]; exact hvn
          rw [List.getD_eq_getElem?_getD, List.getElem?_eq_getElem hl] at hx8
          simp only [Option.getD_some] at hx8
          rw [nums_at hl, hx8])
        have hgd : ps.getD (tr.getD k 0) zeroI = ps[tr.getD k 0] := by rw [List.getD_eq_getElem?_getD, List.getElem?_eq_getElem hvp]; rfl
        have hki := (OKD.out (tr.getD k 0)).2.2.2.1
        have HQ := Lib.hid (fun W (h : Ext w W) => prog_cells (HM.out.ext h) hvp)
        rw [hgd] at hki
        have WY0 := YES.out k
        have WN0 := wrote_not ps tr k
        rw [hgd] at WY0 WN0
        generalize ps[tr.getD k 0] = I at *
        obtain ⟨co, jt, jf, kk⟩ := I
        dsimp only at HQ hki
        obtain ⟨kn, rfl⟩ : ∃ kn : Nat, kk = kn := ⟨kk.toNat, by omega⟩
        have WY := Lib.hid (WY0 co jt jf kn rfl)
        have WN := Lib.hid (WN0 co jt jf kn rfl)
        clear WY0 WN0 hgd hki hre hx8 hkp hkt hvp
        have NXT := Lib.hid (NX.out k)
        have HNC := Lib.hid (NN.out ((tr.getD k 0 : Nat) : Int) wr (HM.out.ext (hx2.trans hy)))
        have C9k := Lib.hid (fun (h : k + 1 < len) W' (e : Ext U W') => C9.out W' e (k + 1) h)
        generalize tr.getD k 0 = v at *
        have y1 : decide ((v : Int) < 0) = false := by simp
        have y2 : decide ((n : Int) ≤ v) = false := by simp; omega
        have y0 : (v : Int) < n := by omega
        have y00 : (0 : Int) ≤ v := by omega
        generalize hWK : (wrote ps tr k : Int) = WK at *
        have HWK := Lib.hid hWK
        clear hWK
        have z1 : (bits .andNot .u16 (x : Int) WK != 0) = false := by rw [hxs]; rfl
        have k0 : (0 : Int) ≤ k := by omega
        have k1 : (k : Int) < len := by omega
        have k3 : (k : Int) < 300 := by omega
        clear hxs
        by_cases h2 : k + 1 < len
        · have y3 : decide ((k : Int) + 1 < len) = true := by simp; omega
          have k4 : (k : Int) + 1 < len := by omega
          have hmem := NXT.out h2
          have c9k := Lib.hid (C9k.out h2)
          have hnl := nextL_len ps (v : Int)
          clear C9k NXT
          generalize tr.getD (k + 1) 0 = vn at *
          generalize nextL ps (v : Int) = ns at *
          go_wp2_with fail
          refine (HNC.out).mono ?_
          rintro e w4 ⟨Q, cQ, rfl, ho, hx'⟩
          have hQ := own_inM ho
          have hy2 := hy.trans hx'
          clear hx' ho HNC h7 h8 h9
          have HMEM := Lib.hid hmem
          generalize hml : ns.length = m at *
          have HML := Lib.hid hml
          clear hmem hml
          go_wp2_with fail
          go_loopw [12, 13] (fun dn it W' => ∃ j : Nat, j ≤ m ∧ it = .int .i64 j ∧ dn = .bool (decide ((vn : Int) ∈ ns.take j)) ∧ Ext w4 W') (fun _ it _ => m - (intOf it).toNat)
          case atStart => exact ⟨0, Nat.zero_le _, rfl, by simp, Ext.refl _⟩
          case round =>
            obtain ⟨j, hj, rfl, rfl, hz⟩ := hrel
            by_cases hjl : j < m
            · have hjt : j < ns.length := by rw [HML.out]; exact hjl
              obtain ⟨b1, o1, rfl, hq1, hq2⟩ := hQ.num hjt
              clear hq1 hq2
              have CQ := Lib.hid (fun W' (h : Ext w4 W') => (hQ.ext h).cell (nums_at hjt))
              have CV := Lib.hid (fun W' (h : Ext w4 W') => c9k.out W' (hy2.trans h))
              have HTK := Lib.hid (show ns.take (j + 1) = ns.take j ++ [ns[j]] from List.take_succ_eq_append_getElem hjt)
              have j0 : (0 : Int) ≤ j := by omega
              have j1 : (j : Int) < m := by omega
              generalize ns[j] = u at *
              clear hjt hQ
              rcases hdn : decide ((vn : Int) ∈ ns.take j) with _ | _
              · have HDN := Lib.hid hdn
                clear hdn
                rcases hv : (u == (vn : Int)) with _ | _
                · have HV := Lib.hid hv
                  have hcq := CQ.out _ hz
                  have hcv := CV.out _ hz
                  go_wp2_with fail
                  go_quiet (fail)
                  clear hcq hcv
                  go_wp2_with fail
                  go_roundw
                  case rel =>
                    refine ⟨j + 1, by omega, by go_num, ?_, by first | exact hz | exact hz.drewN _⟩
                    rw [HTK.out]
                    have h1 := HDN.out
                    have h2 := HV.out
                    simp at h1 h2
                    first
                      | (simp [h1]; exact fun e => h2 e.symm)
                      | (simp [h1, h2])
                  case measure => simp [intOf]; omega
                · have HV := Lib.hid hv
                  have hcq := CQ.out _ hz
                  have hcv := CV.out _ hz
                  go_wp2_with fail
                  go_quiet (fail)
                  clear hcq hcv
                  go_wp2_with fail
                  go_roundw
                  case rel =>
                    refine ⟨j + 1, by omega, by go_num, ?_, by first | exact hz | exact hz.drewN _⟩
                    rw [HTK.out]
                    have h1 := HDN.out
                    have h2 := HV.out
                    simp at h1 h2
                    first
                      | (simp [h1]; exact fun e => h2 e.symm)
                      | (simp [h1, h2])
                  case measure => simp [intOf]; omega
              · have HDN := Lib.hid hdn
                clear hdn
                go_wp2_with fail
                go_quiet (fail)
                go_wp2_with fail
                go_roundw
                case rel =>
                  refine ⟨j + 1, by omega, by go_num, ?_, by first | exact hz | exact hz.drewN _⟩
                  rw [HTK.out]
                  have h1 := HDN.out
                  simp at h1
                  simp [h1]
                case measure => simp [intOf]; omega
            · obtain rfl : j = m := by omega
              rw [List.take_of_length_le (by rw [HML.out]; exact Nat.le_refl _)]
              rw [show decide ((vn : Int) ∈ ns) = true from by simpa using HMEM.out]
              have hz2 := hy2.trans hz
              clear hz hQ
              obtain ⟨q0, q1, q2, q3⟩ := HQ.out _ (hx2.trans hz2)
              rcases hb2 : (co == 2) with _ | _
              · rcases hb3 : (co == 3) with _ | _
                · have hw := Lib.hid (WN.out (by simp [hb2, hb3]))
                  go_wp2_with fail
                  go_roundw
                  case rel => exact ⟨k + 1, by omega, by rw [hw.out, HWK.out], by go_num, hz2⟩
                  case measure => simp [intOf]; omega
                · skip
                  by_cases h16 : kn < 16
                  · have k16 : decide ((kn : Int) < 16) = true := by simp; omega
                    have hpw := pow16_wrap kn h16
                    have hw := Lib.hid (WY.out (by first | (rw [hb2, hb3]; rfl) | (rw [hb2]; rfl)) h16)
                    generalize ((2 ^ kn : Nat) : Int) = pw at *
                    go_wp2_with fail
                    go_roundw
                    case rel => exact ⟨k + 1, by omega, by rw [← hw.out], by go_num, hz2⟩
                    case measure => simp [intOf]; omega
                  · have k16 : decide ((kn : Int) < 16) = false := by simp; omega
                    have hw := Lib.hid (WN.out (by simp [k16]))
                    go_wp2_with fail
                    go_roundw
                    case rel => exact ⟨k + 1, by omega, by rw [hw.out, HWK.out], by go_num, hz2⟩
                    case measure => simp [intOf]; omega
              · skip
                by_cases h16 : kn < 16
                · have k16 : decide ((kn : Int) < 16) = true := by simp; omega
                  have hpw := pow16_wrap kn h16
                  have hw := Lib.hid (WY.out (by first | (rw [hb2, hb3]; rfl) | (rw [hb2]; rfl)) h16)
                  generalize ((2 ^ kn : Nat) : Int) = pw at *
                  go_wp2_with fail
                  go_roundw
                  case rel => exact ⟨k + 1, by omega, by rw [← hw.out], by go_num, hz2⟩
                  case measure => simp [intOf]; omega
                · have k16 : decide ((kn : Int) < 16) = false := by simp; omega
                  have hw := Lib.hid (WN.out (by simp [k16]))
                  go_wp2_with fail
                  go_roundw
                  case rel => exact ⟨k + 1, by omega, by rw [hw.out, HWK.out], by go_num, hz2⟩
                  case measure => simp [intOf]; omega
        · have y3 : decide ((k : Int) + 1 < len) = false := by simp; omega
          have k4 : ¬ (k : Int) + 1 < len := by omega
          clear C9k NXT HNC
          obtain ⟨q0, q1, q2, q3⟩ := HQ.out _ (hx2.trans hy)
          rcases hb2 : (co == 2) with _ | _
          · rcases hb3 : (co == 3) with _ | _
            · have hw := Lib.hid (WN.out (by simp [hb2, hb3]))
              go_wp2_with fail
              go_roundw
              case rel => exact ⟨k + 1, by omega, by rw [hw.out, HWK.out], by go_num, hy⟩
              case measure => simp [intOf]; omega
            · skip
              by_cases h16 : kn < 16
              · have k16 : decide ((kn : Int) < 16) = true := by simp; omega
                have hpw := pow16_wrap kn h16
                have hw := Lib.hid (WY.out (by first | (rw [hb2, hb3]; rfl) | (rw [hb2]; rfl)) h16)
                generalize ((2 ^ kn : Nat) : Int) = pw at *
                go_wp2_with fail
                go_roundw
                case rel => exact ⟨k + 1, by omega, by rw [← hw.out], by go_num, hy⟩
                case measure => simp [intOf]; omega
              · have k16 : decide ((kn : Int) < 16) = false := by simp; omega
                have hw := Lib.hid (WN.out (by simp [k16]))
                go_wp2_with fail
                go_roundw
                case rel => exact ⟨k + 1, by omega, by rw [hw.out, HWK.out], by go_num, hy⟩
                case measure => simp [intOf]; omega
          · skip
            by_cases h16 : kn < 16
            · have k16 : decide ((kn : Int) < 16) = true := by simp; omega
              have hpw := pow16_wrap kn h16
              have hw := Lib.hid (WY.out (by first | (rw [hb2, hb3]; rfl) | (rw [hb2]; rfl)) h16)
              generalize ((2 ^ kn : Nat) : Int) = pw at *
              go_wp2_with fail
              go_roundw
              case rel => exact ⟨k + 1, by omega, by rw [← hw.out], by go_num, hy⟩
              case measure => simp [intOf]; omega
            · have k16 : decide ((kn : Int) < 16) = false := by simp; omega
              have hw := Lib.hid (WN.out (by simp [k16]))
              go_wp2_with fail
              go_roundw
              case rel => exact ⟨k + 1, by omega, by rw [hw.out, HWK.out], by go_num, hy⟩
              case measure => simp [intOf]; omega
      · obtain rfl : k = len := by omega
        go_wp2_with fail
        go_ret
        exact ⟨rfl, hx2.trans hy⟩
end Go.Proofs.Ytkejcfbhikpibaa
