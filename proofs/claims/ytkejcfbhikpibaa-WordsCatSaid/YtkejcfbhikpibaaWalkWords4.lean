import Derived.Test.YtkejcfbhikpibaaWords4
/- The law WordsCat, walked. -/
namespace Go.Proofs.Ytkejcfbhikpibaa
open Go.RowKit Go.ChangeShapes Go.WideShapes
set_option linter.unusedVariables false
set_option linter.unusedSimpArgs false

theorem sl_at {ls : List Sl} {k : Nat} (hk : k < ls.length) : (ls.map Sl.val)[k]? = some (.slice ls[k].A ls[k].n ls[k].c) := by
  rw [List.getElem?_map, List.getElem?_eq_getElem hk]
  rfl
set_option maxHeartbeats 4000000 in
set_option maxRecDepth 100000 in
theorem wordsCat_walk (A : Option Addr) (n c : Nat) (ls : List Sl) (hl : ls.length = n) (hn : n ≤ 140737488355328) {w : World} (hM : InM w A (ls.map Sl.val)) (hok : ∀ s ∈ ls, s.ok w ∧ Byt s.xs ∧ s.n ≤ 140737488355328) (_ : World) :
    Calls Try.prog 3 #[.slice A n c] w fun e w' => e = .returned (.bool true) ∧ Ext w w' := by
  have HM := Lib.hid hM
  have HL := Lib.hid hl
  have HOK := Lib.hid hok
  have HN := Lib.hid hn
  have TS := Lib.hid (fun k hk => tot_take_succ ls k hk)
  have n9 : (n : Int) ≤ 140737488355328 := by omega
  clear hM hl hok hn
  go_enter Try.func3, Try.ntmps3
  go_wp2_with fail
  go_loopw [3, 4] (fun t it W => ∃ k : Nat, k ≤ n ∧ t = .int .i64 ((tot (ls.take k) + k : Nat) : Int) ∧ tot (ls.take k) + k ≤ 1020 ∧ it = .int .i64 k ∧ Ext w W) (fun _ it _ => n - (intOf it).toNat)
  case atStart => exact ⟨0, Nat.zero_le _, rfl, Nat.zero_le _, rfl, Ext.refl _⟩
  case round =>
    obtain ⟨k, hk, rfl, ht, rfl, hy⟩ := hrel
    by_cases hlt : k < n
    · have hkl : k < ls.length := by rw [HL.out]; exact hlt
      have hts := TS.out k hkl
      have hb := (HOK.out _ (List.getElem_mem hkl)).2.2
      obtain ⟨bA, oA, rfl, hq1, hq2⟩ := HM.out.at_ (k := k) (by simpa using hkl)
      clear hq1 hq2
      have h0 := (HM.out.ext hy).cell (sl_at hkl)
      have k1 : (0 : Int) ≤ k := by omega
      have k2 : (k : Int) < n := by omega
      generalize ls[k] = s at *
      obtain ⟨sA, sn, sc, sxs⟩ := s
      dsimp only at h0 hb hts
      generalize htk : tot (ls.take k) + k = tk at *
      have w1 : IntKind.i64.wrap ((tk : Int) + sn) = tk + sn := IntWalk.i64_in _ (by omega)
      have w2 : IntKind.i64.wrap ((tk : Int) + sn + 1) = tk + sn + 1 := IntWalk.i64_in _ (by omega)
      have HTK := Lib.hid (show tot (ls.take (k + 1)) + (k + 1) = tk + sn + 1 by omega)
      by_cases big : 1020 < tk + sn + 1
      · have y1 : decide ((1020 : Int) < (tk : Int) + sn + 1) = true := by simp; omega
        go_wp2_with fail
        go_ret
        exact ⟨rfl, hy⟩
      · have y1 : decide ((1020 : Int) < (tk : Int) + sn + 1) = false := by simp; omega
        go_wp2_with fail
        go_roundw
        case rel => exact ⟨k + 1, by omega, by rw [HTK.out]; go_num, by rw [HTK.out]; omega, by go_num, hy⟩
        case measure => simp [intOf]; omega
    · obtain rfl : k = n := by omega
      have ht2 : tot ls + k ≤ 1020 := by
        rw [List.take_of_length_le (by rw [HL.out]; exact Nat.le_refl _)] at ht
        exact ht
      clear ht
      by_cases big : 20 < k
      · have y1 : decide ((20 : Int) < k) = true := by simp; omega
        go_wp2_with fail
        go_ret
        exact ⟨rfl, hy⟩
      have y1 : decide ((20 : Int) < k) = false := by simp; omega
      have hk20 : k ≤ 20 := by omega
      have htot : tot ls ≤ 1020 := by omega
      have HT := Lib.hid htot
      have HK := Lib.hid hk20
      have k20 : (k : Int) ≤ 20 := by omega
      have hmk : ∀ w : World, (Instr.makeSlice 22 (.int .i64 (k : Int)) (.int .i64 (k : Int))).run Try.prog w = .ok (.slice (some ⟨w.heap.size, 0, none⟩) k k) (w.alloc (.cells (madeCells #[Value.slice none 0 0] k) 23)) := fun w =>
        make_run1 22 23 (.slice none 0 0) 24 Try.underlying22 info_bs rfl .i64 .i64 k k (Nat.le_refl _) (by omega) (by omega) w
      clear big ht2 htot hk20 hlt hk
      have hg0 : w.heap.size ≤ wr.heap.size := hy.size
      have hxa := hy.alloc (.cells (madeCells #[Value.slice none 0 0] k) 23)
      have hB0 : Blk (wr.alloc (.cells (madeCells #[Value.slice none 0 0] k) 23)) wr.heap.size 23 (List.replicate k (.slice none 0 0)).toArray := by
        have h := Blk.new wr 23 (madeCells #[Value.slice none 0 0] k)
        have e : madeCells #[Value.slice none 0 0] k = (List.replicate k (Value.slice none 0 0)).toArray := by apply Array.toList_inj.1; rw [toList_madeCells_one]
        unfold Blk at h ⊢
        rw [h, e]
      have HB0 := Lib.hid hB0
      have HXA := Lib.hid hxa
      clear hB0 hxa
      go_wp2_with fail
      generalize hg : wr.heap.size = g at *
      have HG := Lib.hid hg
      clear hg hy
      go_loopw [5, 7] (fun wt it W => ∃ (j : Nat) (WA : Option Addr) (Wc : Nat) (ms : List Sl), j ≤ k ∧ wt = .slice WA (tot (ls.take j)) Wc ∧ it = .int .i64 j ∧ Ext w W ∧ Mine w ls g k j WA ms W) (fun _ it _ => k - (intOf it).toNat)
      case atStart => exact ⟨0, none, 0, [], Nat.zero_le _, rfl, rfl, HXA.out, Mine.start HB0.out⟩
      case round =>
        clear HB0 HXA
        obtain ⟨j, WA, Wc, ms, hj, rfl, rfl, hz, hm⟩ := hrel
        have HMI := Lib.hid hm
        clear hm
        by_cases hlt : j < k
        · have hkl : j < ls.length := by rw [HL.out]; exact hlt
          have okj := HOK.out _ (List.getElem_mem hkl)
          have OKJ := Lib.hid okj
          obtain ⟨bA, oA, rfl, hq1, hq2⟩ := HM.out.at_ (k := j) (by simpa using hkl)
          clear hq1 hq2
          have CL := Lib.hid (fun W' (h : Ext w W') => (HM.out.ext h).cell (sl_at hkl))
          have k1 : (0 : Int) ≤ j := by omega
          have k2 : (j : Int) < k := by omega
          have HFL := Lib.hid (flat_length w (ls.take j) (fun s hs => (HOK.out s (List.mem_of_mem_take hs)).1))
          have htj := TS.out j hkl
          have HTJ := Lib.hid htj
          have hle2 := tot_take_le ls (j + 1)
          have htt := HT.out
          have HB := Lib.hid (show tot (ls.take j) + ls[j].n ≤ 1000000 by omega)
          have STP := Lib.hid (fun W1 W2 h1 b1 h2 b2 => HMI.out.step (W1 := W1) (W2 := W2) hlt hkl okj.1.1 h1 b1 h2 b2)
          have MW := Lib.hid (And.intro HMI.out.want (And.intro HMI.out.row HMI.out.len))
          clear okj htj hle2 htt HMI
          have c0 := CL.out _ hz
          generalize ls[j] = s at *
          obtain ⟨sA, sn, sc, sx⟩ := s
          dsimp only at c0
          clear hkl
          go_wp2_with fail
          refine (refCat WA sA (tot (ls.take j)) Wc sn sc (flat (ls.take j)) sx _ HFL.out OKJ.out.1.1 HB.out MW.out.1 (OKJ.out.1.2.ext hz)).mono ?_
          rintro e w1 ⟨rfl, b1, e1⟩
          clear c0
          have c0 := CL.out _ (hz.trans e1)
          go_wp2_with fail
          refine (refCopy sA sn sc sx _ OKJ.out.1.1 (by have := HB.out; omega) (OKJ.out.1.2.ext (hz.trans e1))).mono ?_
          rintro e w2 ⟨rfl, b2, e2⟩
          have hrow := (MW.out.2.1.ext e1).ext e2
          have q0 : w2.cell? ⟨g, j, none⟩ = some (.slice none 0 0) := by
            rw [hrow.cell, List.getElem?_toArray, List.getElem?_append_right (by rw [List.length_map, MW.out.2.2]; exact Nat.le_refl _), List.length_map, MW.out.2.2, Nat.sub_self, List.getElem?_replicate, if_pos (by omega)]
          have q1 := hrow.frozen j
          have b2' := Lib.hid b2
          have b1' := Lib.hid b1
          have E1 := Lib.hid e1
          have E2 := Lib.hid e2
          clear c0 hrow b1 b2 e1 e2
          go_wp2_with fail
          go_roundw
          case rel =>
            have hst := STP.out _ _ E1.out b1'.out E2.out b2'.out
            have h9 := HTJ.out
            try dsimp only at hst h9
            have h1 : Value.slice (some ⟨wr.heap.size, 0, none⟩) (tot (ls.take j) + sn) (tot (ls.take j) + sn) = Value.slice (some ⟨wr.heap.size, 0, none⟩) (tot (ls.take (j + 1))) (tot (ls.take j) + sn) := by rw [h9]
            have h2 := ((hz.trans E1.out).trans E2.out).set (p := ⟨g, j, none⟩) hg0 (.slice (some ⟨w1.heap.size, 0, none⟩) sn sn)
            have h3 : (j + 1 : Nat) ≤ k := by omega
            repeat apply Exists.intro
            refine ⟨?_, rfl⟩
            exact ⟨j + 1, some ⟨wr.heap.size, 0, none⟩, tot (ls.take j) + sn, ms ++ [⟨some ⟨w1.heap.size, 0, none⟩, sn, sn, sx⟩], h3, h1, by go_num, h2, hst⟩
          case measure => simp [intOf]; omega
        · obtain rfl : j = k := by omega
          have TOT := Lib.hid (show tot ls ≤ 1000000 by have := HT.out; omega)
          generalize wr = wr0 at *
          have hms := HMI.out
          have htk : ls.take j = ls := List.take_of_length_le (by rw [HL.out]; exact Nat.le_refl _)
          rw [htk]
          have hxs := hms.xs
          rw [htk] at hxs
          have hwant := hms.want
          rw [htk] at hwant
          have hrow : Blk wr0 g 23 (ms.map Sl.val).toArray := by
            have := hms.row
            rw [Nat.sub_self, List.replicate_zero, List.append_nil] at this
            exact this
          have okl : ∀ s ∈ ls, s.ok w := fun s hs => (HOK.out s hs).1
          have htot := tot_ok hxs hms.ok okl
          have hflat := flat_xs hxs
          have hfl := flat_length w ls okl
          have CC := Lib.hid (cat_any (some ⟨g, 0, none⟩) j j ms wr0 hms.len (InM.ofBlk hrow rfl) hms.ok (by have := HT.out; omega) (by have := HK.out; omega))
          rw [htot, hflat] at CC
          have n1 : (tot ls : Int) ≤ 1020 := by have := HT.out; omega
          have MS := Lib.hid hms
          have HROW := Lib.hid hrow
          have HXS := Lib.hid hxs
          have HFL := Lib.hid hfl
          have HWT := Lib.hid hwant
          clear htk htot hflat hfl okl hrow hms HMI hxs hwant hlt hj
          generalize hTL : tot ls = N at *
          have HTL := Lib.hid hTL
          clear hTL
          go_wp2_with fail
          refine CC.out.mono ?_
          rintro e w4 ⟨A1, c1, rfl, ho, e4⟩
          have hin := own_inM ho
          have hob := own_bytes ho
          clear ho CC
          go_wp2_with fail
          refine (refSame_true A1 WA N c1 Wc (flat ls) w4 HFL.out (by omega) hin (HWT.out.ext e4)).mono ?_
          rintro e w5 ⟨rfl, q, rfl⟩
          have x5 := e4.drewN q
          rcases hob with h0 | ⟨g3, cur, rfl, hb3, B3, hl3, hv3⟩
          · subst h0
            clear hin e4
            generalize w4.drewN q = w5 at *
            go_wp2_with fail
            go_loopw [9] (fun it W => it = .int .i64 0 ∧ W = w5) (fun _ _ => 0)
            case atStart => exact ⟨rfl, rfl⟩
            case round =>
              obtain ⟨rfl, rfl⟩ := hrel
              go_wp2_with fail
              go_loopw [10] (fun it W' => ∃ i : Nat, i ≤ j ∧ it = .int .i64 i ∧ Ext wr0 W') (fun it _ => j - (intOf it).toNat)
              case atStart => exact ⟨0, Nat.zero_le _, rfl, x5⟩
              case round =>
                obtain ⟨i, hi, rfl, x7⟩ := hrel
                by_cases hlt : i < j
                · have hkl : i < ls.length := by rw [HL.out]; exact hlt
                  have hkm : i < ms.length := by rw [MS.out.len]; exact hlt
                  have hk0 : 0 < ls.length := by omega
                  have exs : ms[i].xs = ls[i].xs := by
                    have h1 : (ms.map Sl.xs)[i]? = (ls.map Sl.xs)[i]? := by rw [HXS.out]
                    rw [List.getElem?_map, List.getElem?_map, List.getElem?_eq_getElem hkl, List.getElem?_eq_getElem hkm] at h1
                    simpa using h1
                  have ok1 := MS.out.ok _ (List.getElem_mem hkm)
                  have ok2 := HOK.out _ (List.getElem_mem hkl)
                  have ok3 := HOK.out _ (List.getElem_mem hk0)
                  have en : ms[i].n = ls[i].n := by rw [← ok1.1, ← ok2.1.1, exs]
                  obtain ⟨bA, oA, rfl, hq1, hq2⟩ := HM.out.at_ (k := i) (by simpa using hkl)
                  clear hq1 hq2
                  have CL := Lib.hid (fun W' (h : Ext wr0 W') => (HM.out.ext (hz.trans h)).cell (sl_at hkl))
                  have CZ := Lib.hid (fun W' (h : Ext wr0 W') => show W'.cell? ⟨bA, oA, none⟩ = some (.slice ls[0].A ls[0].n ls[0].c) from (HM.out.ext (hz.trans h)).cell (sl_at hk0))
                  have CM := Lib.hid (fun W' (h : Ext wr0 W') => show W'.cell? ⟨g, i, none⟩ = some (.slice ms[i].A ls[i].n ms[i].c) from by
                    rw [(HROW.out.ext h).cell, List.getElem?_toArray, sl_at hkm, en])
                  have k1 : (0 : Int) ≤ i := by omega
                  have k2 : (i : Int) < j := by omega
                  have k3 : (0 : Int) < j := by omega
                  have nb : ls[i].n ≤ 1000000 := by
                    have h1 := tot_take_succ ls i hkl
                    have h2 := tot_take_le ls (i + 1)
                    have h3 := TOT.out
                    have h4 := HTL.out
                    omega
                  have nz : ls[0].n ≤ 1000000 := by
                    have h1 := tot_take_succ ls 0 hk0
                    have h2 := tot_take_le ls 1
                    have h3 := TOT.out
                    have h4 := HTL.out
                    rw [Nat.zero_add] at h1
                    omega
                  have S1 := Lib.hid (fun W' (h : Ext wr0 W') => refSame_true ms[i].A ls[i].A ls[i].n ms[i].c ls[i].c ls[i].xs W' ok2.1.1 nb (by have := ok1.2.ext h; rw [exs] at this; exact this) (ok2.1.2.ext (hz.trans h)))
                  have S2 := Lib.hid (fun W' (h : Ext wr0 W') => wordsSame ls[0].A ls[i].A ls[0].n ls[0].c ls[i].n ls[i].c ls[0].xs ls[i].xs W' ok3.1.1 ok2.1.1 ok3.2.1 ok2.2.1 (ok3.1.2.ext (hz.trans h)) (ok2.1.2.ext (hz.trans h)))
                  have S3 := Lib.hid (fun W' (h : Ext wr0 W') => refSame_any ls[0].A ls[i].A ls[0].n ls[0].c ls[i].n ls[i].c ls[0].xs ls[i].xs W' ok3.1.1 ok2.1.1 nz (ok3.1.2.ext (hz.trans h)) (ok2.1.2.ext (hz.trans h)))
                  clear ok1 ok2 ok3 exs en nb nz
                  generalize decide (ls[0].xs = ls[i].xs) = bb at *
                  generalize ls[i] = s at *
                  generalize ls[0] = z at *
                  generalize ms[i] = m at *
                  obtain ⟨sA, sn, sc, sx⟩ := s
                  obtain ⟨zA, zn, zc, zx⟩ := z
                  obtain ⟨mA, mn, mc, mx⟩ := m
                  dsimp only at CL CZ CM S1 S2 S3
                  have bbb : (bb != bb) = false := by cases bb <;> rfl
                  clear hkl hkm hk0
                  go_wp2_with fail
                  refine wp_region_mono rfl ((.is ?va0 : VP) :: (.is ?va1 : VP) :: (.is ?va2 : VP) :: (.is (.slice mA sn mc) : VP) :: (.is ?va4 : VP) :: (.is ?va5 : VP) :: (.is ?va6 : VP) :: (.is (.slice sA sn sc) : VP) :: (.is (.bool true) : VP) :: (.is (.bool false) : VP) :: (.is (.bool false) : VP) :: (.is ?va11 : VP) :: (.is ?va12 : VP) :: (.is (.slice zA zn zc) : VP) :: (.is ?va14 : VP) :: (.is ?va15 : VP) :: (.is ?va16 : VP) :: (.is (.slice sA sn sc) : VP) :: (.is (.bool bb) : VP) :: (.is ?va19 : VP) :: (.is ?va20 : VP) :: (.is (.slice zA zn zc) : VP) :: (.is ?va22 : VP) :: (.is ?va23 : VP) :: (.is ?va24 : VP) :: (.is (.slice sA sn sc) : VP) :: (.is (.bool bb) : VP) :: (.is (.bool false) : VP) :: (.is (.bool false) : VP) :: []) (by kernel_rfl) (by kernel_rfl) ?Aa ?hAa ⟨?oa0, ?oa1, ?oa2, ?oa3, ?oa4, ?oa5, ?oa6, ?oa7, ?oa8, ?oa9, ?oa10, ?oa11, ?oa12, ?oa13, ?oa14, ?oa15, ?oa16, ?oa17, ?oa18, ?oa19, ?oa20, ?oa21, ?oa22, ?oa23, ?oa24, ?oa25, ?oa26, ?oa27, ?oa28, trivial⟩ ?fina
                  case hAa => (intro x; simp only [fillOps, Act.put, List.setIfInBounds_toArray, List.set_cons_zero, List.set_cons_succ, Nat.reduceAdd]; rfl)
                  case oa0 =>
                    intro x U hU
                    simp only [depV, One, dstOf, readDst, asBool, VP.is, VP.any, VP.row, VP.ptr, VP.blk, VP.ex, VP.and, VP.of, List.getD_cons_zero, List.getD_cons_succ]
                    go_wp2_with (fail)
                    refine done_mk ?_ rfl (Ext.refl _)
                    rfl
                  case oa1 =>
                    intro x U hU
                    simp only [depV, One, dstOf, readDst, asBool, VP.is, VP.any, VP.row, VP.ptr, VP.blk, VP.ex, VP.and, VP.of, List.getD_cons_zero, List.getD_cons_succ]
                    go_wp2_with (fail)
                    refine done_mk ?_ rfl (Ext.refl _)
                    rfl
                  case oa2 =>
                    intro x U hU
                    simp only [depV, One, dstOf, readDst, asBool, VP.is, VP.any, VP.row, VP.ptr, VP.blk, VP.ex, VP.and, VP.of, List.getD_cons_zero, List.getD_cons_succ]
                    intro d0
                    intro d1
                    simp only [d0, d1]
                    go_wp2_with (fail)
                    refine done_mk ?_ rfl (Ext.refl _)
                    rfl
                  case oa3 =>
                    intro x U hU
                    simp only [depV, One, dstOf, readDst, asBool, VP.is, VP.any, VP.row, VP.ptr, VP.blk, VP.ex, VP.and, VP.of, List.getD_cons_zero, List.getD_cons_succ]
                    intro d2
                    simp only [d2]
                    have h0 := CM.out U (x7.trans hU)
                    go_wp2_with (fail)
                    refine done_mk ?_ rfl (Ext.refl _)
                    rfl
                  case oa4 =>
                    intro x U hU
                    simp only [depV, One, dstOf, readDst, asBool, VP.is, VP.any, VP.row, VP.ptr, VP.blk, VP.ex, VP.and, VP.of, List.getD_cons_zero, List.getD_cons_succ]
                    go_wp2_with (fail)
                    refine done_mk ?_ rfl (Ext.refl _)
                    rfl
                  case oa5 =>
                    intro x U hU
                    simp only [depV, One, dstOf, readDst, asBool, VP.is, VP.any, VP.row, VP.ptr, VP.blk, VP.ex, VP.and, VP.of, List.getD_cons_zero, List.getD_cons_succ]
                    go_wp2_with (fail)
                    refine done_mk ?_ rfl (Ext.refl _)
                    rfl
                  case oa6 =>
                    intro x U hU
                    simp only [depV, One, dstOf, readDst, asBool, VP.is, VP.any, VP.row, VP.ptr, VP.blk, VP.ex, VP.and, VP.of, List.getD_cons_zero, List.getD_cons_succ]
                    intro d4
                    intro d5
                    simp only [d4, d5]
                    go_wp2_with (fail)
                    refine done_mk ?_ rfl (Ext.refl _)
                    rfl
                  case oa7 =>
                    intro x U hU
                    simp only [depV, One, dstOf, readDst, asBool, VP.is, VP.any, VP.row, VP.ptr, VP.blk, VP.ex, VP.and, VP.of, List.getD_cons_zero, List.getD_cons_succ]
                    intro d6
                    simp only [d6]
                    have h0 := CL.out U (x7.trans hU)
                    go_wp2_with (fail)
                    refine done_mk ?_ rfl (Ext.refl _)
                    rfl
                  case oa8 =>
                    intro x U hU
                    simp only [depV, One, dstOf, readDst, asBool, VP.is, VP.any, VP.row, VP.ptr, VP.blk, VP.ex, VP.and, VP.of, List.getD_cons_zero, List.getD_cons_succ]
                    intro d3
                    intro d7
                    simp only [d3, d7]
                    go_wp2_with ((refine (S1.out _ (x7.trans hU)).mono ?_; rintro e w9 ⟨rfl, q9, rfl⟩))
                    refine done_mk ?_ rfl ((Ext.refl _).drewN _)
                    rfl
                  case oa9 =>
                    intro x U hU
                    simp only [depV, One, dstOf, readDst, asBool, VP.is, VP.any, VP.row, VP.ptr, VP.blk, VP.ex, VP.and, VP.of, List.getD_cons_zero, List.getD_cons_succ]
                    intro d8
                    simp only [d8]
                    go_wp2_with (fail)
                    refine done_mk ?_ rfl (Ext.refl _)
                    rfl
                  case oa10 =>
                    intro x U hU
                    simp only [depV, One, dstOf, readDst, asBool, VP.is, VP.any, VP.row, VP.ptr, VP.blk, VP.ex, VP.and, VP.of, List.getD_cons_zero, List.getD_cons_succ]
                    intro d9
                    simp only [d9]
                    go_wp2_with (fail)
                    refine done_mk ?_ rfl (Ext.refl _)
                    rfl
                  case oa11 =>
                    intro x U hU
                    simp only [depV, One, dstOf, readDst, asBool, VP.is, VP.any, VP.row, VP.ptr, VP.blk, VP.ex, VP.and, VP.of, List.getD_cons_zero, List.getD_cons_succ]
                    intro d10
                    simp only [d10]
                    refine gcase_run (by first | rfl | simp) ?_
                    go_wp2_with (fail)
                    refine done_mk ?_ rfl (Ext.refl _)
                    rfl
                  case oa12 =>
                    intro x U hU
                    simp only [depV, One, dstOf, readDst, asBool, VP.is, VP.any, VP.row, VP.ptr, VP.blk, VP.ex, VP.and, VP.of, List.getD_cons_zero, List.getD_cons_succ]
                    intro d11
                    intro d10
                    simp only [d11, d10]
                    refine gcase_run (by first | rfl | simp) ?_
                    go_wp2_with (fail)
                    refine done_mk ?_ rfl (Ext.refl _)
                    rfl
                  case oa13 =>
                    intro x U hU
                    simp only [depV, One, dstOf, readDst, asBool, VP.is, VP.any, VP.row, VP.ptr, VP.blk, VP.ex, VP.and, VP.of, List.getD_cons_zero, List.getD_cons_succ]
                    intro d12
                    intro d10
                    simp only [d12, d10]
                    refine gcase_run (by first | rfl | simp) ?_
                    have h0 := CZ.out U (x7.trans hU)
                    go_wp2_with (fail)
                    refine done_mk ?_ rfl (Ext.refl _)
                    rfl
                  case oa14 =>
                    intro x U hU
                    simp only [depV, One, dstOf, readDst, asBool, VP.is, VP.any, VP.row, VP.ptr, VP.blk, VP.ex, VP.and, VP.of, List.getD_cons_zero, List.getD_cons_succ]
                    intro d10
                    simp only [d10]
                    refine gcase_run (by first | rfl | simp) ?_
                    go_wp2_with (fail)
                    refine done_mk ?_ rfl (Ext.refl _)
                    rfl
                  case oa15 =>
                    intro x U hU
                    simp only [depV, One, dstOf, readDst, asBool, VP.is, VP.any, VP.row, VP.ptr, VP.blk, VP.ex, VP.and, VP.of, List.getD_cons_zero, List.getD_cons_succ]
                    intro d10
                    simp only [d10]
                    refine gcase_run (by first | rfl | simp) ?_
                    go_wp2_with (fail)
                    refine done_mk ?_ rfl (Ext.refl _)
                    rfl
                  case oa16 =>
                    intro x U hU
                    simp only [depV, One, dstOf, readDst, asBool, VP.is, VP.any, VP.row, VP.ptr, VP.blk, VP.ex, VP.and, VP.of, List.getD_cons_zero, List.getD_cons_succ]
                    intro d14
                    intro d15
                    intro d10
                    simp only [d14, d15, d10]
                    refine gcase_run (by first | rfl | simp) ?_
                    go_wp2_with (fail)
                    refine done_mk ?_ rfl (Ext.refl _)
                    rfl
                  case oa17 =>
                    intro x U hU
                    simp only [depV, One, dstOf, readDst, asBool, VP.is, VP.any, VP.row, VP.ptr, VP.blk, VP.ex, VP.and, VP.of, List.getD_cons_zero, List.getD_cons_succ]
                    intro d16
                    intro d10
                    simp only [d16, d10]
                    refine gcase_run (by first | rfl | simp) ?_
                    have h0 := CL.out U (x7.trans hU)
                    go_wp2_with (fail)
                    refine done_mk ?_ rfl (Ext.refl _)
                    rfl
                  case oa18 =>
                    intro x U hU
                    simp only [depV, One, dstOf, readDst, asBool, VP.is, VP.any, VP.row, VP.ptr, VP.blk, VP.ex, VP.and, VP.of, List.getD_cons_zero, List.getD_cons_succ]
                    intro d13
                    intro d17
                    intro d10
                    simp only [d13, d17, d10]
                    refine gcase_run (by first | rfl | simp) ?_
                    go_wp2_with ((refine (S2.out _ (x7.trans hU)).mono ?_; rintro e w9 ⟨rfl, rfl⟩))
                    refine done_mk ?_ rfl (Ext.refl _)
                    rfl
                  case oa19 =>
                    intro x U hU
                    simp only [depV, One, dstOf, readDst, asBool, VP.is, VP.any, VP.row, VP.ptr, VP.blk, VP.ex, VP.and, VP.of, List.getD_cons_zero, List.getD_cons_succ]
                    intro d10
                    simp only [d10]
                    refine gcase_run (by first | rfl | simp) ?_
                    go_wp2_with (fail)
                    refine done_mk ?_ rfl (Ext.refl _)
                    rfl
                  case oa20 =>
                    intro x U hU
                    simp only [depV, One, dstOf, readDst, asBool, VP.is, VP.any, VP.row, VP.ptr, VP.blk, VP.ex, VP.and, VP.of, List.getD_cons_zero, List.getD_cons_succ]
                    intro d19
                    intro d10
                    simp only [d19, d10]
                    refine gcase_run (by first | rfl | simp) ?_
                    go_wp2_with (fail)
                    refine done_mk ?_ rfl (Ext.refl _)
                    rfl
                  case oa21 =>
                    intro x U hU
                    simp only [depV, One, dstOf, readDst, asBool, VP.is, VP.any, VP.row, VP.ptr, VP.blk, VP.ex, VP.and, VP.of, List.getD_cons_zero, List.getD_cons_succ]
                    intro d20
                    intro d10
                    simp only [d20, d10]
                    refine gcase_run (by first | rfl | simp) ?_
                    have h0 := CZ.out U (x7.trans hU)
                    go_wp2_with (fail)
                    refine done_mk ?_ rfl (Ext.refl _)
                    rfl
                  case oa22 =>
                    intro x U hU
                    simp only [depV, One, dstOf, readDst, asBool, VP.is, VP.any, VP.row, VP.ptr, VP.blk, VP.ex, VP.and, VP.of, List.getD_cons_zero, List.getD_cons_succ]
                    intro d10
                    simp only [d10]
                    refine gcase_run (by first | rfl | simp) ?_
                    go_wp2_with (fail)
                    refine done_mk ?_ rfl (Ext.refl _)
                    rfl
                  case oa23 =>
                    intro x U hU
                    simp only [depV, One, dstOf, readDst, asBool, VP.is, VP.any, VP.row, VP.ptr, VP.blk, VP.ex, VP.and, VP.of, List.getD_cons_zero, List.getD_cons_succ]
                    intro d10
                    simp only [d10]
                    refine gcase_run (by first | rfl | simp) ?_
                    go_wp2_with (fail)
                    refine done_mk ?_ rfl (Ext.refl _)
                    rfl
                  case oa24 =>
                    intro x U hU
                    simp only [depV, One, dstOf, readDst, asBool, VP.is, VP.any, VP.row, VP.ptr, VP.blk, VP.ex, VP.and, VP.of, List.getD_cons_zero, List.getD_cons_succ]
                    intro d22
                    intro d23
                    intro d10
                    simp only [d22, d23, d10]
                    refine gcase_run (by first | rfl | simp) ?_
                    go_wp2_with (fail)
                    refine done_mk ?_ rfl (Ext.refl _)
                    rfl
                  case oa25 =>
                    intro x U hU
                    simp only [depV, One, dstOf, readDst, asBool, VP.is, VP.any, VP.row, VP.ptr, VP.blk, VP.ex, VP.and, VP.of, List.getD_cons_zero, List.getD_cons_succ]
                    intro d24
                    intro d10
                    simp only [d24, d10]
                    refine gcase_run (by first | rfl | simp) ?_
                    have h0 := CL.out U (x7.trans hU)
                    go_wp2_with (fail)
                    refine done_mk ?_ rfl (Ext.refl _)
                    rfl
                  case oa26 =>
                    intro x U hU
                    simp only [depV, One, dstOf, readDst, asBool, VP.is, VP.any, VP.row, VP.ptr, VP.blk, VP.ex, VP.and, VP.of, List.getD_cons_zero, List.getD_cons_succ]
                    intro d21
                    intro d25
                    intro d10
                    simp only [d21, d25, d10]
                    refine gcase_run (by first | rfl | simp) ?_
                    go_wp2_with ((refine (S3.out _ (x7.trans hU)).mono ?_; rintro e w9 ⟨rfl, hx9⟩))
                    refine done_mk ?_ rfl (hx9)
                    rfl
                  case oa27 =>
                    intro x U hU
                    simp only [depV, One, dstOf, readDst, asBool, VP.is, VP.any, VP.row, VP.ptr, VP.blk, VP.ex, VP.and, VP.of, List.getD_cons_zero, List.getD_cons_succ]
                    intro d18
                    intro d26
                    intro d10
                    simp only [d18, d26, d10]
                    refine gcase_run (by first | rfl | simp) ?_
                    go_wp2_with (fail)
                    refine done_mk ?_ rfl (Ext.refl _)
                    rfl
                  case oa28 =>
                    intro x U hU
                    simp only [depV, One, dstOf, readDst, asBool, VP.is, VP.any, VP.row, VP.ptr, VP.blk, VP.ex, VP.and, VP.of, List.getD_cons_zero, List.getD_cons_succ]
                    intro d10
                    intro d27
                    simp only [d10, d27]
                    go_wp2_with (fail)
                    refine done_mk ?_ rfl (Ext.refl _)
                    rfl
                  case fina =>
                    intro x U hU
                    simp only [allV, depV, One, dstOf, readDst, asBool, VP.is, VP.any, VP.row, VP.ptr, VP.blk, VP.ex, VP.and, VP.of, List.getD_cons_zero, List.getD_cons_succ]
                    intro d0
                    intro d1
                    intro d2
                    intro d3
                    intro d4
                    intro d5
                    intro d6
                    intro d7
                    intro d8
                    intro d9
                    intro d10
                    intro d11
                    intro d12
                    intro d13
                    intro d14
                    intro d15
                    intro d16
                    intro d17
                    intro d18
                    intro d19
                    intro d20
                    intro d21
                    intro d22
                    intro d23
                    intro d24
                    intro d25
                    intro d26
                    intro d27
                    intro d28
                    simp only [d0, d1, d2, d3, d4, d5, d6, d7, d8, d9, d10, d11, d12, d13, d14, d15, d16, d17, d18, d19, d20, d21, d22, d23, d24, d25, d26, d27, d28]
                    clear d0 d1 d2 d3 d4 d5 d6 d7 d8 d9 d10 d11 d12 d13 d14 d15 d16 d17 d18 d19 d20 d21 d22 d23 d24 d25 d26 d27 d28
                    go_wp2_with fail
                    go_roundw
                    case rel => exact ⟨i + 1, by omega, by go_num, x7.trans hU⟩
                    case measure => simp [intOf]; omega
                · obtain rfl : i = j := by omega
                  go_wp2_with fail
                  go_ret
                  exact ⟨rfl, hz.trans x7⟩
          · have B5 := B3.drewN q
            clear hin e4 B3
            generalize w4.drewN q = w5 at *
            go_wp2_with fail
            go_loopw [9] (fun it W => ∃ (i : Nat) (cu : List Value), i ≤ N ∧ it = .int .i64 i ∧ Ext wr0 W ∧ Blk W g3 5 cu.toArray ∧ N ≤ cu.length ∧ ∀ j, j < N → ∃ v, cu[j]? = some (.int .u8 v)) (fun it _ => N - (intOf it).toNat)
            case atStart => exact ⟨0, cur, Nat.zero_le _, rfl, x5, B5, hl3, hv3⟩
            case round =>
              clear x5 B5 hl3 hv3
              obtain ⟨i, cu, hi, rfl, x6, B6, hl6, hv6⟩ := hrel
              by_cases hlt : i < N
              · obtain ⟨v, hv⟩ := hv6 i hlt
                have q0 : wr.cell? ⟨g3, i, none⟩ = some (.int .u8 v) := by rw [B6.cell, List.getElem?_toArray]; exact hv
                have q1 := B6.frozen i
                have k1 : (0 : Int) ≤ i := by omega
                have k2 : (i : Int) < N := by omega
                have HV6 := Lib.hid hv6
                have HL6 := Lib.hid hl6
                have X6 := Lib.hid x6
                have B6h := Lib.hid B6
                clear hv hv6 B6 x6 hl6
                go_wp2_with fail
                go_roundw
                case rel =>
                  refine ⟨i + 1, _, by omega, by go_num, X6.out.set (p := ⟨g3, i, none⟩) hb3 _, blk_list_set B6h.out i _, ?_, fun j hj => ?_⟩
                  · rw [List.length_set]; exact HL6.out
                  · by_cases e : i = j
                    · subst e
                      exact ⟨_, List.getElem?_set_self (Nat.lt_of_lt_of_le hj HL6.out)⟩
                    · obtain ⟨v', hv'⟩ := HV6.out j hj
                      exact ⟨v', by rw [List.getElem?_set_ne e]; exact hv'⟩
                case measure => simp [intOf]; omega
              · obtain rfl : i = N := by omega
                clear B6 hl6 hv6
                go_wp2_with fail
                go_loopw [10] (fun it W' => ∃ i : Nat, i ≤ j ∧ it = .int .i64 i ∧ Ext wr0 W') (fun it _ => j - (intOf it).toNat)
                case atStart => exact ⟨0, Nat.zero_le _, rfl, x6⟩
                case round =>
                  obtain ⟨i, hi, rfl, x7⟩ := hrel
                  by_cases hlt : i < j
                  · have hkl : i < ls.length := by rw [HL.out]; exact hlt
                    have hkm : i < ms.length := by rw [MS.out.len]; exact hlt
                    have hk0 : 0 < ls.length := by omega
                    have exs : ms[i].xs = ls[i].xs := by
                      have h1 : (ms.map Sl.xs)[i]? = (ls.map Sl.xs)[i]? := by rw [HXS.out]
                      rw [List.getElem?_map, List.getElem?_map, List.getElem?_eq_getElem hkl, List.getElem?_eq_getElem hkm] at h1
                      simpa using h1
                    have ok1 := MS.out.ok _ (List.getElem_mem hkm)
                    have ok2 := HOK.out _ (List.getElem_mem hkl)
                    have ok3 := HOK.out _ (List.getElem_mem hk0)
                    have en : ms[i].n = ls[i].n := by rw [← ok1.1, ← ok2.1.1, exs]
                    obtain ⟨bA, oA, rfl, hq1, hq2⟩ := HM.out.at_ (k := i) (by simpa using hkl)
                    clear hq1 hq2
                    have CL := Lib.hid (fun W' (h : Ext wr0 W') => (HM.out.ext (hz.trans h)).cell (sl_at hkl))
                    have CZ := Lib.hid (fun W' (h : Ext wr0 W') => show W'.cell? ⟨bA, oA, none⟩ = some (.slice ls[0].A ls[0].n ls[0].c) from (HM.out.ext (hz.trans h)).cell (sl_at hk0))
                    have CM := Lib.hid (fun W' (h : Ext wr0 W') => show W'.cell? ⟨g, i, none⟩ = some (.slice ms[i].A ls[i].n ms[i].c) from by
                      rw [(HROW.out.ext h).cell, List.getElem?_toArray, sl_at hkm, en])
                    have k1 : (0 : Int) ≤ i := by omega
                    have k2 : (i : Int) < j := by omega
                    have k3 : (0 : Int) < j := by omega
                    have nb : ls[i].n ≤ 1000000 := by
                      have h1 := tot_take_succ ls i hkl
                      have h2 := tot_take_le ls (i + 1)
                      have h3 := TOT.out
                      have h4 := HTL.out
                      omega
                    have nz : ls[0].n ≤ 1000000 := by
                      have h1 := tot_take_succ ls 0 hk0
                      have h2 := tot_take_le ls 1
                      have h3 := TOT.out
                      have h4 := HTL.out
                      rw [Nat.zero_add] at h1
                      omega
                    have S1 := Lib.hid (fun W' (h : Ext wr0 W') => refSame_true ms[i].A ls[i].A ls[i].n ms[i].c ls[i].c ls[i].xs W' ok2.1.1 nb (by have := ok1.2.ext h; rw [exs] at this; exact this) (ok2.1.2.ext (hz.trans h)))
                    have S2 := Lib.hid (fun W' (h : Ext wr0 W') => wordsSame ls[0].A ls[i].A ls[0].n ls[0].c ls[i].n ls[i].c ls[0].xs ls[i].xs W' ok3.1.1 ok2.1.1 ok3.2.1 ok2.2.1 (ok3.1.2.ext (hz.trans h)) (ok2.1.2.ext (hz.trans h)))
                    have S3 := Lib.hid (fun W' (h : Ext wr0 W') => refSame_any ls[0].A ls[i].A ls[0].n ls[0].c ls[i].n ls[i].c ls[0].xs ls[i].xs W' ok3.1.1 ok2.1.1 nz (ok3.1.2.ext (hz.trans h)) (ok2.1.2.ext (hz.trans h)))
                    clear ok1 ok2 ok3 exs en nb nz
                    generalize decide (ls[0].xs = ls[i].xs) = bb at *
                    generalize ls[i] = s at *
                    generalize ls[0] = z at *
                    generalize ms[i] = m at *
                    obtain ⟨sA, sn, sc, sx⟩ := s
                    obtain ⟨zA, zn, zc, zx⟩ := z
                    obtain ⟨mA, mn, mc, mx⟩ := m
                    dsimp only at CL CZ CM S1 S2 S3
                    have bbb : (bb != bb) = false := by cases bb <;> rfl
                    clear hkl hkm hk0
                    go_wp2_with fail
                    refine wp_region_mono rfl ((.is ?vaq2r0 : VP) :: (.is ?vaq2r1 : VP) :: (.is ?vaq2r2 : VP) :: (.is (.slice mA sn mc) : VP) :: (.is ?vaq2r4 : VP) :: (.is ?vaq2r5 : VP) :: (.is ?vaq2r6 : VP) :: (.is (.slice sA sn sc) : VP) :: (.is (.bool true) : VP) :: (.is (.bool false) : VP) :: (.is (.bool false) : VP) :: (.is ?vaq2r11 : VP) :: (.is ?vaq2r12 : VP) :: (.is (.slice zA zn zc) : VP) :: (.is ?vaq2r14 : VP) :: (.is ?vaq2r15 : VP) :: (.is ?vaq2r16 : VP) :: (.is (.slice sA sn sc) : VP) :: (.is (.bool bb) : VP) :: (.is ?vaq2r19 : VP) :: (.is ?vaq2r20 : VP) :: (.is (.slice zA zn zc) : VP) :: (.is ?vaq2r22 : VP) :: (.is ?vaq2r23 : VP) :: (.is ?vaq2r24 : VP) :: (.is (.slice sA sn sc) : VP) :: (.is (.bool bb) : VP) :: (.is (.bool false) : VP) :: (.is (.bool false) : VP) :: []) (by kernel_rfl) (by kernel_rfl) ?Aaq2r ?hAaq2r ⟨?oaq2r0, ?oaq2r1, ?oaq2r2, ?oaq2r3, ?oaq2r4, ?oaq2r5, ?oaq2r6, ?oaq2r7, ?oaq2r8, ?oaq2r9, ?oaq2r10, ?oaq2r11, ?oaq2r12, ?oaq2r13, ?oaq2r14, ?oaq2r15, ?oaq2r16, ?oaq2r17, ?oaq2r18, ?oaq2r19, ?oaq2r20, ?oaq2r21, ?oaq2r22, ?oaq2r23, ?oaq2r24, ?oaq2r25, ?oaq2r26, ?oaq2r27, ?oaq2r28, trivial⟩ ?finaq2r
                    case hAaq2r => (intro x; simp only [fillOps, Act.put, List.setIfInBounds_toArray, List.set_cons_zero, List.set_cons_succ, Nat.reduceAdd]; rfl)
                    case oaq2r0 =>
                      intro x U hU
                      simp only [depV, One, dstOf, readDst, asBool, VP.is, VP.any, VP.row, VP.ptr, VP.blk, VP.ex, VP.and, VP.of, List.getD_cons_zero, List.getD_cons_succ]
                      go_wp2_with (fail)
                      refine done_mk ?_ rfl (Ext.refl _)
                      rfl
                    case oaq2r1 =>
                      intro x U hU
                      simp only [depV, One, dstOf, readDst, asBool, VP.is, VP.any, VP.row, VP.ptr, VP.blk, VP.ex, VP.and, VP.of, List.getD_cons_zero, List.getD_cons_succ]
                      go_wp2_with (fail)
                      refine done_mk ?_ rfl (Ext.refl _)
                      rfl
                    case oaq2r2 =>
                      intro x U hU
                      simp only [depV, One, dstOf, readDst, asBool, VP.is, VP.any, VP.row, VP.ptr, VP.blk, VP.ex, VP.and, VP.of, List.getD_cons_zero, List.getD_cons_succ]
                      intro d0
                      intro d1
                      simp only [d0, d1]
                      go_wp2_with (fail)
                      refine done_mk ?_ rfl (Ext.refl _)
                      rfl
                    case oaq2r3 =>
                      intro x U hU
                      simp only [depV, One, dstOf, readDst, asBool, VP.is, VP.any, VP.row, VP.ptr, VP.blk, VP.ex, VP.and, VP.of, List.getD_cons_zero, List.getD_cons_succ]
                      intro d2
                      simp only [d2]
                      have h0 := CM.out U (x7.trans hU)
                      go_wp2_with (fail)
                      refine done_mk ?_ rfl (Ext.refl _)
                      rfl
                    case oaq2r4 =>
                      intro x U hU
                      simp only [depV, One, dstOf, readDst, asBool, VP.is, VP.any, VP.row, VP.ptr, VP.blk, VP.ex, VP.and, VP.of, List.getD_cons_zero, List.getD_cons_succ]
                      go_wp2_with (fail)
                      refine done_mk ?_ rfl (Ext.refl _)
                      rfl
                    case oaq2r5 =>
                      intro x U hU
                      simp only [depV, One, dstOf, readDst, asBool, VP.is, VP.any, VP.row, VP.ptr, VP.blk, VP.ex, VP.and, VP.of, List.getD_cons_zero, List.getD_cons_succ]
                      go_wp2_with (fail)
                      refine done_mk ?_ rfl (Ext.refl _)
                      rfl
                    case oaq2r6 =>
                      intro x U hU
                      simp only [depV, One, dstOf, readDst, asBool, VP.is, VP.any, VP.row, VP.ptr, VP.blk, VP.ex, VP.and, VP.of, List.getD_cons_zero, List.getD_cons_succ]
                      intro d4
                      intro d5
                      simp only [d4, d5]
                      go_wp2_with (fail)
                      refine done_mk ?_ rfl (Ext.refl _)
                      rfl
                    case oaq2r7 =>
                      intro x U hU
                      simp only [depV, One, dstOf, readDst, asBool, VP.is, VP.any, VP.row, VP.ptr, VP.blk, VP.ex, VP.and, VP.of, List.getD_cons_zero, List.getD_cons_succ]
                      intro d6
                      simp only [d6]
                      have h0 := CL.out U (x7.trans hU)
                      go_wp2_with (fail)
                      refine done_mk ?_ rfl (Ext.refl _)
                      rfl
                    case oaq2r8 =>
                      intro x U hU
                      simp only [depV, One, dstOf, readDst, asBool, VP.is, VP.any, VP.row, VP.ptr, VP.blk, VP.ex, VP.and, VP.of, List.getD_cons_zero, List.getD_cons_succ]
                      intro d3
                      intro d7
                      simp only [d3, d7]
                      go_wp2_with ((refine (S1.out _ (x7.trans hU)).mono ?_; rintro e w9 ⟨rfl, q9, rfl⟩))
                      refine done_mk ?_ rfl ((Ext.refl _).drewN _)
                      rfl
                    case oaq2r9 =>
                      intro x U hU
                      simp only [depV, One, dstOf, readDst, asBool, VP.is, VP.any, VP.row, VP.ptr, VP.blk, VP.ex, VP.and, VP.of, List.getD_cons_zero, List.getD_cons_succ]
                      intro d8
                      simp only [d8]
                      go_wp2_with (fail)
                      refine done_mk ?_ rfl (Ext.refl _)
                      rfl
                    case oaq2r10 =>
                      intro x U hU
                      simp only [depV, One, dstOf, readDst, asBool, VP.is, VP.any, VP.row, VP.ptr, VP.blk, VP.ex, VP.and, VP.of, List.getD_cons_zero, List.getD_cons_succ]
                      intro d9
                      simp only [d9]
                      go_wp2_with (fail)
                      refine done_mk ?_ rfl (Ext.refl _)
                      rfl
                    case oaq2r11 =>
                      intro x U hU
                      simp only [depV, One, dstOf, readDst, asBool, VP.is, VP.any, VP.row, VP.ptr, VP.blk, VP.ex, VP.and, VP.of, List.getD_cons_zero, List.getD_cons_succ]
                      intro d10
                      simp only [d10]
                      refine gcase_run (by first | rfl | simp) ?_
                      go_wp2_with (fail)
                      refine done_mk ?_ rfl (Ext.refl _)
                      rfl
                    case oaq2r12 =>
                      intro x U hU
                      simp only [depV, One, dstOf, readDst, asBool, VP.is, VP.any, VP.row, VP.ptr, VP.blk, VP.ex, VP.and, VP.of, List.getD_cons_zero, List.getD_cons_succ]
                      intro d11
                      intro d10
                      simp only [d11, d10]
                      refine gcase_run (by first | rfl | simp) ?_
                      go_wp2_with (fail)
                      refine done_mk ?_ rfl (Ext.refl _)
                      rfl
                    case oaq2r13 =>
                      intro x U hU
                      simp only [depV, One, dstOf, readDst, asBool, VP.is, VP.any, VP.row, VP.ptr, VP.blk, VP.ex, VP.and, VP.of, List.getD_cons_zero, List.getD_cons_succ]
                      intro d12
                      intro d10
                      simp only [d12, d10]
                      refine gcase_run (by first | rfl | simp) ?_
                      have h0 := CZ.out U (x7.trans hU)
                      go_wp2_with (fail)
                      refine done_mk ?_ rfl (Ext.refl _)
                      rfl
                    case oaq2r14 =>
                      intro x U hU
                      simp only [depV, One, dstOf, readDst, asBool, VP.is, VP.any, VP.row, VP.ptr, VP.blk, VP.ex, VP.and, VP.of, List.getD_cons_zero, List.getD_cons_succ]
                      intro d10
                      simp only [d10]
                      refine gcase_run (by first | rfl | simp) ?_
                      go_wp2_with (fail)
                      refine done_mk ?_ rfl (Ext.refl _)
                      rfl
                    case oaq2r15 =>
                      intro x U hU
                      simp only [depV, One, dstOf, readDst, asBool, VP.is, VP.any, VP.row, VP.ptr, VP.blk, VP.ex, VP.and, VP.of, List.getD_cons_zero, List.getD_cons_succ]
                      intro d10
                      simp only [d10]
                      refine gcase_run (by first | rfl | simp) ?_
                      go_wp2_with (fail)
                      refine done_mk ?_ rfl (Ext.refl _)
                      rfl
                    case oaq2r16 =>
                      intro x U hU
                      simp only [depV, One, dstOf, readDst, asBool, VP.is, VP.any, VP.row, VP.ptr, VP.blk, VP.ex, VP.and, VP.of, List.getD_cons_zero, List.getD_cons_succ]
                      intro d14
                      intro d15
                      intro d10
                      simp only [d14, d15, d10]
                      refine gcase_run (by first | rfl | simp) ?_
                      go_wp2_with (fail)
                      refine done_mk ?_ rfl (Ext.refl _)
                      rfl
                    case oaq2r17 =>
                      intro x U hU
                      simp only [depV, One, dstOf, readDst, asBool, VP.is, VP.any, VP.row, VP.ptr, VP.blk, VP.ex, VP.and, VP.of, List.getD_cons_zero, List.getD_cons_succ]
                      intro d16
                      intro d10
                      simp only [d16, d10]
                      refine gcase_run (by first | rfl | simp) ?_
                      have h0 := CL.out U (x7.trans hU)
                      go_wp2_with (fail)
                      refine done_mk ?_ rfl (Ext.refl _)
                      rfl
                    case oaq2r18 =>
                      intro x U hU
                      simp only [depV, One, dstOf, readDst, asBool, VP.is, VP.any, VP.row, VP.ptr, VP.blk, VP.ex, VP.and, VP.of, List.getD_cons_zero, List.getD_cons_succ]
                      intro d13
                      intro d17
                      intro d10
                      simp only [d13, d17, d10]
                      refine gcase_run (by first | rfl | simp) ?_
                      go_wp2_with ((refine (S2.out _ (x7.trans hU)).mono ?_; rintro e w9 ⟨rfl, rfl⟩))
                      refine done_mk ?_ rfl (Ext.refl _)
                      rfl
                    case oaq2r19 =>
                      intro x U hU
                      simp only [depV, One, dstOf, readDst, asBool, VP.is, VP.any, VP.row, VP.ptr, VP.blk, VP.ex, VP.and, VP.of, List.getD_cons_zero, List.getD_cons_succ]
                      intro d10
                      simp only [d10]
                      refine gcase_run (by first | rfl | simp) ?_
                      go_wp2_with (fail)
                      refine done_mk ?_ rfl (Ext.refl _)
                      rfl
                    case oaq2r20 =>
                      intro x U hU
                      simp only [depV, One, dstOf, readDst, asBool, VP.is, VP.any, VP.row, VP.ptr, VP.blk, VP.ex, VP.and, VP.of, List.getD_cons_zero, List.getD_cons_succ]
                      intro d19
                      intro d10
                      simp only [d19, d10]
                      refine gcase_run (by first | rfl | simp) ?_
                      go_wp2_with (fail)
                      refine done_mk ?_ rfl (Ext.refl _)
                      rfl
                    case oaq2r21 =>
                      intro x U hU
                      simp only [depV, One, dstOf, readDst, asBool, VP.is, VP.any, VP.row, VP.ptr, VP.blk, VP.ex, VP.and, VP.of, List.getD_cons_zero, List.getD_cons_succ]
                      intro d20
                      intro d10
                      simp only [d20, d10]
                      refine gcase_run (by first | rfl | simp) ?_
                      have h0 := CZ.out U (x7.trans hU)
                      go_wp2_with (fail)
                      refine done_mk ?_ rfl (Ext.refl _)
                      rfl
                    case oaq2r22 =>
                      intro x U hU
                      simp only [depV, One, dstOf, readDst, asBool, VP.is, VP.any, VP.row, VP.ptr, VP.blk, VP.ex, VP.and, VP.of, List.getD_cons_zero, List.getD_cons_succ]
                      intro d10
                      simp only [d10]
                      refine gcase_run (by first | rfl | simp) ?_
                      go_wp2_with (fail)
                      refine done_mk ?_ rfl (Ext.refl _)
                      rfl
                    case oaq2r23 =>
                      intro x U hU
                      simp only [depV, One, dstOf, readDst, asBool, VP.is, VP.any, VP.row, VP.ptr, VP.blk, VP.ex, VP.and, VP.of, List.getD_cons_zero, List.getD_cons_succ]
                      intro d10
                      simp only [d10]
                      refine gcase_run (by first | rfl | simp) ?_
                      go_wp2_with (fail)
                      refine done_mk ?_ rfl (Ext.refl _)
                      rfl
                    case oaq2r24 =>
                      intro x U hU
                      simp only [depV, One, dstOf, readDst, asBool, VP.is, VP.any, VP.row, VP.ptr, VP.blk, VP.ex, VP.and, VP.of, List.getD_cons_zero, List.getD_cons_succ]
                      intro d22
                      intro d23
                      intro d10
                      simp only [d22, d23, d10]
                      refine gcase_run (by first | rfl | simp) ?_
                      go_wp2_with (fail)
                      refine done_mk ?_ rfl (Ext.refl _)
                      rfl
                    case oaq2r25 =>
                      intro x U hU
                      simp only [depV, One, dstOf, readDst, asBool, VP.is, VP.any, VP.row, VP.ptr, VP.blk, VP.ex, VP.and, VP.of, List.getD_cons_zero, List.getD_cons_succ]
                      intro d24
                      intro d10
                      simp only [d24, d10]
                      refine gcase_run (by first | rfl | simp) ?_
                      have h0 := CL.out U (x7.trans hU)
                      go_wp2_with (fail)
                      refine done_mk ?_ rfl (Ext.refl _)
                      rfl
                    case oaq2r26 =>
                      intro x U hU
                      simp only [depV, One, dstOf, readDst, asBool, VP.is, VP.any, VP.row, VP.ptr, VP.blk, VP.ex, VP.and, VP.of, List.getD_cons_zero, List.getD_cons_succ]
                      intro d21
                      intro d25
                      intro d10
                      simp only [d21, d25, d10]
                      refine gcase_run (by first | rfl | simp) ?_
                      go_wp2_with ((refine (S3.out _ (x7.trans hU)).mono ?_; rintro e w9 ⟨rfl, hx9⟩))
                      refine done_mk ?_ rfl (hx9)
                      rfl
                    case oaq2r27 =>
                      intro x U hU
                      simp only [depV, One, dstOf, readDst, asBool, VP.is, VP.any, VP.row, VP.ptr, VP.blk, VP.ex, VP.and, VP.of, List.getD_cons_zero, List.getD_cons_succ]
                      intro d18
                      intro d26
                      intro d10
                      simp only [d18, d26, d10]
                      refine gcase_run (by first | rfl | simp) ?_
                      go_wp2_with (fail)
                      refine done_mk ?_ rfl (Ext.refl _)
                      rfl
                    case oaq2r28 =>
                      intro x U hU
                      simp only [depV, One, dstOf, readDst, asBool, VP.is, VP.any, VP.row, VP.ptr, VP.blk, VP.ex, VP.and, VP.of, List.getD_cons_zero, List.getD_cons_succ]
                      intro d10
                      intro d27
                      simp only [d10, d27]
                      go_wp2_with (fail)
                      refine done_mk ?_ rfl (Ext.refl _)
                      rfl
                    case finaq2r =>
                      intro x U hU
                      simp only [allV, depV, One, dstOf, readDst, asBool, VP.is, VP.any, VP.row, VP.ptr, VP.blk, VP.ex, VP.and, VP.of, List.getD_cons_zero, List.getD_cons_succ]
                      intro d0
                      intro d1
                      intro d2
                      intro d3
                      intro d4
                      intro d5
                      intro d6
                      intro d7
                      intro d8
                      intro d9
                      intro d10
                      intro d11
                      intro d12
                      intro d13
                      intro d14
                      intro d15
                      intro d16
                      intro d17
                      intro d18
                      intro d19
                      intro d20
                      intro d21
                      intro d22
                      intro d23
                      intro d24
                      intro d25
                      intro d26
                      intro d27
                      intro d28
                      simp only [d0, d1, d2, d3, d4, d5, d6, d7, d8, d9, d10, d11, d12, d13, d14, d15, d16, d17, d18, d19, d20, d21, d22, d23, d24, d25, d26, d27, d28]
                      clear d0 d1 d2 d3 d4 d5 d6 d7 d8 d9 d10 d11 d12 d13 d14 d15 d16 d17 d18 d19 d20 d21 d22 d23 d24 d25 d26 d27 d28
                      go_wp2_with fail
                      go_roundw
                      case rel => exact ⟨i + 1, by omega, by go_num, x7.trans hU⟩
                      case measure => simp [intOf]; omega
                  · obtain rfl : i = j := by omega
                    go_wp2_with fail
                    go_ret
                    exact ⟨rfl, hz.trans x7⟩
end Go.Proofs.Ytkejcfbhikpibaa
