import Derived.Test.YtkejcfbhikpibaaAwake4
import Derived.Test.YtkejcfbhikpibaaVm17
import Derived.Test.YtkejcfbhikpibaaWalkVm1
import Derived.Test.YtkejcfbhikpibaaWalkVm4
import Derived.Test.YtkejcfbhikpibaaCopyAll
/- The law VmUnseen, walked. -/
namespace Go.Proofs.Ytkejcfbhikpibaa
open Go.RowKit Go.ChangeShapes Go.WideShapes
set_option linter.unusedVariables false
set_option linter.unusedSimpArgs false

set_option maxHeartbeats 4000000 in
set_option maxRecDepth 100000 in
theorem vmUnseen_walk (A : Option Addr) (n c : Nat) (ps : List Ins) (hp : ps.length = n) (hm : n ≤ c ∧ c ≤ maxLen) (hok : ∀ i ∈ ps, i.ok) {w : World} (hM : InM w A (pc ps)) (d : Dat) (hd : d.ok) (at_ : Int) (hat : (Lit.int .i64 at_).wf = true) (I : Ins) (hI : I.ok) (arg : Int) (harg : (Lit.int .i64 arg).wf = true) (by_ : Int) (hby : (Lit.int .u64 by_).wf = true) (_ : World) :
    Calls Try.prog 7 #[.slice A n c, d.val, .int .i64 at_, I.val, .int .i64 arg, .int .u64 by_] w fun e w' => e = .returned (.bool true) ∧ Ext w w' := by
  have HM := Lib.hid hM
  have HA := Lib.hid (fun W => awake04 W)
  by_cases big : 300 < n
  · have d1 : (300 : Int) < n := by omega
    clear hp hm hok hM hd hat hI harg hby
    obtain ⟨nr, arch, ip, a0, a1, a2, a3, a4, a5⟩ := d
    obtain ⟨co, jt, jf, kk⟩ := I
    unfold Ins.val Ins.cells
    dsimp only at *
    have hx := ((Ext.refl w).alloc (.cells #[.int .u32 nr, .int .u32 arch, .int .u64 ip, .int .u64 a0, .int .u64 a1, .int .u64 a2, .int .u64 a3, .int .u64 a4, .int .u64 a5] 36)).alloc (.cells #[.int .u16 co, .int .u8 jt, .int .u8 jf, .int .u32 kk] 32)
    have bd := (Blk.new w 36 #[.int .u32 nr, .int .u32 arch, .int .u64 ip, .int .u64 a0, .int .u64 a1, .int .u64 a2, .int .u64 a3, .int .u64 a4, .int .u64 a5]).alloc (.cells #[.int .u16 co, .int .u8 jt, .int .u8 jf, .int .u32 kk] 32)
    have bi : Blk ((w.alloc (.cells #[.int .u32 nr, .int .u32 arch, .int .u64 ip, .int .u64 a0, .int .u64 a1, .int .u64 a2, .int .u64 a3, .int .u64 a4, .int .u64 a5] 36)).alloc (.cells #[.int .u16 co, .int .u8 jt, .int .u8 jf, .int .u32 kk] 32)) (w.heap.size + 1) 32 #[.int .u16 co, .int .u8 jt, .int .u8 jf, .int .u32 kk] := Blk.new_ (by simp)
    go_enter Try.func7, Try.ntmps7
    go_wp2_with fail
    refine (HA.out _).mono ?_
    rintro e w1 ⟨rfl, hx'⟩
    replace hx := hx.trans hx'
    replace bd := bd.ext hx'
    replace bi := bi.ext hx'
    clear hx'
    go_wp2_with fail
    go_ret
    exact ⟨rfl, hx⟩
  have d1 : decide ((300 : Int) < n) = false := by simp; omega
  have n3 : (n : Int) ≤ 300 := by omega
  have H2 := Lib.hid (fun W h => vmRun A n c ps hp hok (by omega) d hd W h)
  have H3 := Lib.hid (fun W h => vmTrace A n c ps hp hok (by omega) d hd W h)
  have HG := (run_good d ps).len
  rw [hp] at HG
  obtain ⟨⟨x, m, tr, er⟩, hR⟩ : ∃ R, runR d ps = R := ⟨_, rfl⟩
  rw [hR] at H2 H3 HG
  dsimp only at HG
  have hby2 : U64 by_ := wf_u64 hby
  have RUN := Lib.hid (fun g Q hQ d2 hd2 W hW => unseen_run g n ps hp hok (by omega) d hd at_ I hI arg by_ hby2 x m tr er hR Q hQ d2 hd2 W hW)
  have sx : (x == x) = true := by simp
  have sm : ((m : Int) == m) = true := by simp
  have se : (er == er) = true := by simp
  generalize hlen : tr.length = len at *
  have HLEN := Lib.hid hlen
  have l1 : (len : Int) ≤ 300 := by omega
  obtain ⟨i0, hi, hz0, hz1, hz2⟩ := info_parts info_ins
  have hmk : ∀ w : World, (Instr.makeSlice 37 (.int .i64 (n : Int)) (.int .i64 (n : Int))).run Try.prog w = .ok (.slice (some ⟨w.heap.size, 0, none⟩) n n) (w.alloc (.cells (madeCells #[.int .u16 0, .int .u8 0, .int .u8 0, .int .u32 0] (n * 4)) 32)) := fun w => by
    have := make_run 37 32 i0 _ Try.underlying37 hi hz0 .i64 .i64 n n (Nat.le_refl _) (by omega) (by omega) w
    rw [hz1] at this
    exact this
  have L1 := Lib.hid (show (pc ps).length = n * 4 by rw [pc_length]; omega)
  have U1 := Lib.hid (pc_one ps)
  have HC := Lib.hid (And.intro hp (And.intro hok (And.intro hd (And.intro hI (And.intro hat (And.intro harg hby))))))
  clear hi hz0 hz1 hz2 hp hm hok hM hd hat hI harg hby hR hlen big HG
  obtain ⟨nr, arch, ip, a0, a1, a2, a3, a4, a5⟩ := d
  obtain ⟨co, jt, jf, kk⟩ := I
  unfold Ins.val Ins.cells
  dsimp only at *
  have hx := ((Ext.refl w).alloc (.cells #[.int .u32 nr, .int .u32 arch, .int .u64 ip, .int .u64 a0, .int .u64 a1, .int .u64 a2, .int .u64 a3, .int .u64 a4, .int .u64 a5] 36)).alloc (.cells #[.int .u16 co, .int .u8 jt, .int .u8 jf, .int .u32 kk] 32)
  have bd := (Blk.new w 36 #[.int .u32 nr, .int .u32 arch, .int .u64 ip, .int .u64 a0, .int .u64 a1, .int .u64 a2, .int .u64 a3, .int .u64 a4, .int .u64 a5]).alloc (.cells #[.int .u16 co, .int .u8 jt, .int .u8 jf, .int .u32 kk] 32)
  have bi : Blk ((w.alloc (.cells #[.int .u32 nr, .int .u32 arch, .int .u64 ip, .int .u64 a0, .int .u64 a1, .int .u64 a2, .int .u64 a3, .int .u64 a4, .int .u64 a5] 36)).alloc (.cells #[.int .u16 co, .int .u8 jt, .int .u8 jf, .int .u32 kk] 32)) (w.heap.size + 1) 32 #[.int .u16 co, .int .u8 jt, .int .u8 jf, .int .u32 kk] := Blk.new_ (by simp)
  go_enter Try.func7, Try.ntmps7
  go_wp2_with fail
  refine (HA.out _).mono ?_
  rintro e w1 ⟨rfl, hx'⟩
  replace hx := hx.trans hx'
  replace bd := bd.ext hx'
  replace bi := bi.ext hx'
  clear hx'
  dsimp only [Dat.val] at H2 H3
  have r0 := (bd).cell 0
  have r1 := (bd).cell 1
  have r2 := (bd).cell 2
  have r3 := (bd).cell 3
  have r4 := (bd).cell 4
  have r5 := (bd).cell 5
  have r6 := (bd).cell 6
  have r7 := (bd).cell 7
  have r8 := (bd).cell 8
  go_wp2_with fail
  clear r0 r1 r2 r3 r4 r5 r6 r7 r8
  refine (H2.out _ (HM.out.ext hx)).mono ?_
  rintro e w2 ⟨rfl, hx'⟩
  replace hx := hx.trans hx'
  replace bd := bd.ext hx'
  replace bi := bi.ext hx'
  clear hx' H2
  have r0 := (bd).cell 0
  have r1 := (bd).cell 1
  have r2 := (bd).cell 2
  have r3 := (bd).cell 3
  have r4 := (bd).cell 4
  have r5 := (bd).cell 5
  have r6 := (bd).cell 6
  have r7 := (bd).cell 7
  have r8 := (bd).cell 8
  go_wp2_with fail
  clear r0 r1 r2 r3 r4 r5 r6 r7 r8
  refine (H3.out _ (HM.out.ext hx)).mono ?_
  rintro e w3 ⟨L, cl, rfl, hL, hx'⟩
  replace hx := hx.trans hx'
  replace bd := bd.ext hx'
  replace bi := bi.ext hx'
  have HL := Lib.hid hL
  clear hx' hL H3
  have hG := Blk.new w3 32 (madeCells #[.int .u16 0, .int .u8 0, .int .u8 0, .int .u32 0] (n * 4))
  have hx4 := hx.alloc (.cells (madeCells #[.int .u16 0, .int .u8 0, .int .u8 0, .int .u32 0] (n * 4)) 32)
  have L2 := Lib.hid (show (madeCells #[Value.int .u16 0, .int .u8 0, .int .u8 0, .int .u32 0] (n * 4)).size = n * 4 by rw [size_madeCells])
  have bd4 := bd.alloc (.cells (madeCells #[.int .u16 0, .int .u8 0, .int .u8 0, .int .u32 0] (n * 4)) 32)
  have bi4 := bi.alloc (.cells (madeCells #[.int .u16 0, .int .u8 0, .int .u8 0, .int .u32 0] (n * 4)) 32)
  have HL4 := Lib.hid (HL.out.ext ((Ext.refl w3).alloc (.cells (madeCells #[.int .u16 0, .int .u8 0, .int .u8 0, .int .u32 0] (n * 4)) 32)))
  have g1 : w.heap.size + 1 < w3.heap.size := bi.lt
  go_wp2_with (refine wpList_copy_all4 rfl (.tmp 43) (.tmp 44) 37 37 rfl 32 Try.underlying37 4 size_ins4 (by decide) w3.heap.size n c A rfl rfl _ _ hG (pc ps) L1.out L2.out (HM.out.ext hx4) U1.out ?_; intro w5 hb5 hg5)
  have hx35 : Ext w3 w5 := ((Ext.refl w3).alloc _).grown hg5 (fun k e => by cases e; exact Nat.le_refl _)
  have hx5 := hx.trans hx35
  have bd5 := bd.ext hx35
  have bi5 := bi.ext hx35
  have HL5 := Lib.hid (HL.out.ext hx35)
  clear hG hx4 bd4 bi4 HL4 hg5 hx bd bi hx35
  go_loopw [18, 19] (fun dn it wr => ∃ k : Nat, k ≤ len ∧ it = .int .i64 k ∧ dn = .bool (decide (at_ ∈ (ints tr).take k)) ∧ Ext w5 wr) (fun _ it _ => len - (intOf it).toNat)
  case atStart => exact ⟨0, Nat.zero_le _, rfl, by simp, Ext.refl _⟩
  case round =>
    obtain ⟨k, hk, rfl, rfl, hxr⟩ := hrel
    by_cases hlt : k < len
    · have hkt : k < (ints tr).length := by rw [ints_length, HLEN.out]; exact hlt
      obtain ⟨b1, o1, rfl, _, h1⟩ := (HL5.out.ext hxr).num hkt
      have htk : (ints tr).take (k + 1) = (ints tr).take k ++ [(ints tr)[k]] := List.take_succ_eq_append_getElem hkt
      have k0 : (0 : Int) ≤ k := by omega
      have k1 : (k : Int) < len := by omega
      have HTK := Lib.hid htk
      clear htk
      generalize (ints tr)[k] = v at *
      rcases hdn : decide (at_ ∈ (ints tr).take k) with _ | _
      · have HDN := Lib.hid hdn
        clear hdn hkt hlt
        rcases hv : (v == at_) with _ | _
        all_goals
          have HV := Lib.hid hv
          go_wp2_with fail
          go_roundw
          case rel =>
            refine ⟨k + 1, by omega, by go_num, ?_, hxr⟩
            rw [HTK.out]
            have h1 := HDN.out
            have h2 := HV.out
            simp at h1 h2
            first
              | (simp [h1]; exact fun e => h2 e.symm)
              | (simp [h1, h2])
          case measure => simp [intOf]; omega
      · have HDN := Lib.hid hdn
        clear hdn hkt hlt
        go_wp2_with fail
        go_roundw
        case rel =>
          refine ⟨k + 1, by omega, by go_num, ?_, hxr⟩
          rw [HTK.out]
          have h1 := HDN.out
          simp at h1
          simp [h1]
        case measure => simp [intOf]; omega
    · obtain rfl : k = len := by omega
      rw [List.take_of_length_le (by rw [ints_length, HLEN.out]; exact Nat.le_refl _)]
      clear hlt
      have hx6 := hx5.trans hxr
      have bd6 := bd5.ext hxr
      have bi6 := bi5.ext hxr
      have hb6 := hb5.ext hxr
      have g6 : w3.heap.size < wr.heap.size := hb6.lt
      generalize hD : decide (at_ ∈ ints tr) = D at *
      have HD := Lib.hid hD
      clear hD hb5 bi5 bd5 hx5 hxr HL5
      by_cases c1 : at_ < 0
      · have t1 : decide ((0 : Int) ≤ at_) = false := by simp; omega
        have t4 : decide (at_ < (0 : Int)) = true := by simp; omega
        clear c1 bi6
        go_wp2_with fail
        by_cases a0 : arg < 0
        · have ga : decide ((0 : Int) ≤ arg) = false := by simp; omega
          clear a0
          go_loopw [20, 21] (fun ld it W' => ∃ k : Nat, k ≤ n ∧ ld = .bool false ∧ it = .int .i64 k ∧ Ext wr W') (fun _ it _ => n - (intOf it).toNat)
          case atStart => exact ⟨0, Nat.zero_le _, rfl, rfl, Ext.refl _⟩
          case round =>
            obtain ⟨k, hk, rfl, rfl, hv⟩ := hrel
            by_cases hlt : k < n
            · have hkp : k < ps.length := by rw [HC.out.1]; exact hlt
              obtain ⟨bA, oA, rfl, _⟩ := prog_some HM.out (Nat.lt_of_le_of_lt (Nat.zero_le _) hkp)
              obtain ⟨q0, q1, q2, q3⟩ := prog_cells (HM.out.ext ((hx6).trans hv)) hkp
              have k1 : (0 : Int) ≤ k := by omega
              have k2 : (k : Int) < n := by omega
              have k3 : (k : Int) < 300 := by omega
              generalize ps[k] = P at *
              obtain ⟨c2, t2, f2, m2⟩ := P
              dsimp only at q0 q1 q2 q3
              clear hkp
              rcases h32 : (c2 == 32) with _ | _
              all_goals
                go_wp2_with fail
                go_roundw
                case rel => exact ⟨k + 1, by omega, rfl, by go_num, hv⟩
                case measure => simp [intOf]; omega
            · obtain rfl : k = n := by omega
              have hx9 := (hx6).trans hv
              have bd9 := (bd6).ext hv
              have bq9 := (hb6).ext hv
              have BQ9 := Lib.hid bq9
              clear bq9
              have r0 := (bd9).cell 0
              have r1 := (bd9).cell 1
              have r2 := (bd9).cell 2
              have r3 := (bd9).cell 3
              have r4 := (bd9).cell 4
              have r5 := (bd9).cell 5
              have r6 := (bd9).cell 6
              have r7 := (bd9).cell 7
              have r8 := (bd9).cell 8
              go_wp2_with fail
              refine (RUN.out _ ps (.inl rfl) ⟨nr, arch, ip, a0, a1, a2, a3, a4, a5⟩ (.inl rfl) _ (InM.ofBlk BQ9.out rfl)).mono ?_
              rintro e w8 ⟨rfl, hx'⟩
              go_wp2_with fail
              go_ret
              exact ⟨rfl, hx9.trans hx'⟩
        by_cases a6 : 6 ≤ arg
        · have ga : decide ((0 : Int) ≤ arg) = true := by simp; omega
          have gb : decide (arg < (6 : Int)) = false := by simp; omega
          clear a0 a6
          go_loopw [20, 21] (fun ld it W' => ∃ k : Nat, k ≤ n ∧ ld = .bool false ∧ it = .int .i64 k ∧ Ext wr W') (fun _ it _ => n - (intOf it).toNat)
          case atStart => exact ⟨0, Nat.zero_le _, rfl, rfl, Ext.refl _⟩
          case round =>
            obtain ⟨k, hk, rfl, rfl, hv⟩ := hrel
            by_cases hlt : k < n
            · have hkp : k < ps.length := by rw [HC.out.1]; exact hlt
              obtain ⟨bA, oA, rfl, _⟩ := prog_some HM.out (Nat.lt_of_le_of_lt (Nat.zero_le _) hkp)
              obtain ⟨q0, q1, q2, q3⟩ := prog_cells (HM.out.ext ((hx6).trans hv)) hkp
              have k1 : (0 : Int) ≤ k := by omega
              have k2 : (k : Int) < n := by omega
              have k3 : (k : Int) < 300 := by omega
              generalize ps[k] = P at *
              obtain ⟨c2, t2, f2, m2⟩ := P
              dsimp only at q0 q1 q2 q3
              clear hkp
              rcases h32 : (c2 == 32) with _ | _
              all_goals
                go_wp2_with fail
                go_roundw
                case rel => exact ⟨k + 1, by omega, rfl, by go_num, hv⟩
                case measure => simp [intOf]; omega
            · obtain rfl : k = n := by omega
              have hx9 := (hx6).trans hv
              have bd9 := (bd6).ext hv
              have bq9 := (hb6).ext hv
              have BQ9 := Lib.hid bq9
              clear bq9
              have r0 := (bd9).cell 0
              have r1 := (bd9).cell 1
              have r2 := (bd9).cell 2
              have r3 := (bd9).cell 3
              have r4 := (bd9).cell 4
              have r5 := (bd9).cell 5
              have r6 := (bd9).cell 6
              have r7 := (bd9).cell 7
              have r8 := (bd9).cell 8
              go_wp2_with fail
              refine (RUN.out _ ps (.inl rfl) ⟨nr, arch, ip, a0, a1, a2, a3, a4, a5⟩ (.inl rfl) _ (InM.ofBlk BQ9.out rfl)).mono ?_
              rintro e w8 ⟨rfl, hx'⟩
              go_wp2_with fail
              go_ret
              exact ⟨rfl, hx9.trans hx'⟩
        obtain ⟨ar, rfl⟩ : ∃ ar : Nat, arg = ar := ⟨arg.toNat, by omega⟩
        have ga : decide ((0 : Int) ≤ (ar : Int)) = true := by simp
        have gb : decide ((ar : Int) < (6 : Int)) = true := by simp; omega
        have ha6 : ar < 6 := by omega
        have g0 : (0 : Int) ≤ ar := by omega
        have g6 : (ar : Int) < 6 := by omega
        have w64 : IntKind.i64.wrap (2 + (ar : Int)) = 2 + ar := IntWalk.i64_in _ (by omega)
        have w32 : IntKind.u32.wrap (2 + (ar : Int)) = 2 + ar := IntWalk.u32_in _ (by omega)
        clear a0 a6
        go_loopw [20, 21] (fun ld it W' => ∃ k : Nat, k ≤ n ∧ ld = .bool (loadsB ar (ps.take k)) ∧ it = .int .i64 k ∧ Ext wr W') (fun _ it _ => n - (intOf it).toNat)
        case atStart => exact ⟨0, Nat.zero_le _, rfl, rfl, Ext.refl _⟩
        case round =>
          obtain ⟨k, hk, rfl, rfl, hv⟩ := hrel
          by_cases hlt : k < n
          · have hkp : k < ps.length := by rw [HC.out.1]; exact hlt
            have HS := loadsB_succ ar ps k hkp
            have hi := HC.out.2.1 _ (List.getElem_mem hkp)
            obtain ⟨bA, oA, rfl, _⟩ := prog_some HM.out (Nat.lt_of_le_of_lt (Nat.zero_le _) hkp)
            obtain ⟨q0, q1, q2, q3⟩ := prog_cells (HM.out.ext ((hx6).trans hv)) hkp
            have k1 : (0 : Int) ≤ k := by omega
            have k2 : (k : Int) < n := by omega
            have k3 : (k : Int) < 300 := by omega
            generalize ps[k] = P at *
            obtain ⟨c2, t2, f2, m2⟩ := P
            dsimp only at q0 q1 q2 q3
            unfold loadsI at HS
            dsimp only at HS
            rw [ga, gb] at HS
            have hm0 : 0 ≤ m2 := hi.2.2.2.1
            have hm1 : m2 < 4294967296 := by have h : m2 < 256 ^ 4 := hi.2.2.2.2; omega
            have hq8 : IntKind.u32.wrap (m2.tdiv 8) = m2 / 8 := IntWalk.u32_quo m2 8 ⟨hm0, by omega, by omega⟩
            clear hi hkp
            generalize loadsB (ar : Int) (ps.take k) = LB at *
            cases LB with
            | true =>
              have HSh := Lib.hid HS
              clear HS
              go_wp2_with fail
              go_roundw
              case rel => exact ⟨k + 1, by omega, by rw [HSh.out, Bool.true_or], by go_num, hv⟩
              case measure => simp [intOf]; omega
            | false =>
              rcases h32 : (c2 == 32) with _ | _
              · rw [h32] at HS
                have HSh := Lib.hid HS
                clear HS
                go_wp2_with fail
                go_roundw
                case rel => exact ⟨k + 1, by omega, by rw [HSh.out]; rfl, by go_num, hv⟩
                case measure => simp [intOf]; omega
              · rw [h32] at HS
                have HSh := Lib.hid HS
                clear HS
                rcases h8 : (m2 / 8 == 2 + (ar : Int)) with _ | _
                all_goals
                  have H8 := Lib.hid h8
                  go_wp2_with fail
                  go_roundw
                  case rel => exact ⟨k + 1, by omega, by rw [HSh.out, H8.out]; rfl, by go_num, hv⟩
                  case measure => simp [intOf]; omega
          · obtain rfl : k = n := by omega
            rw [List.take_of_length_le (by rw [HC.out.1]; exact Nat.le_refl _)]
            have hx9 := (hx6).trans hv
            have bd9 := (bd6).ext hv
            have bq9 := (hb6).ext hv
            have BQ9 := Lib.hid bq9
            have g9 : w.heap.size ≠ w3.heap.size := by omega
            clear bq9
            generalize hLB : loadsB (ar : Int) ps = LB at *
            have HLB := Lib.hid hLB
            clear hLB
            cases LB with
            | true =>
              have r0 := (bd9).cell 0
              have r1 := (bd9).cell 1
              have r2 := (bd9).cell 2
              have r3 := (bd9).cell 3
              have r4 := (bd9).cell 4
              have r5 := (bd9).cell 5
              have r6 := (bd9).cell 6
              have r7 := (bd9).cell 7
              have r8 := (bd9).cell 8
              go_wp2_with fail
              refine (RUN.out _ ps (.inl rfl) ⟨nr, arch, ip, a0, a1, a2, a3, a4, a5⟩ (.inl rfl) _ (InM.ofBlk BQ9.out rfl)).mono ?_
              rintro e w8 ⟨rfl, hx'⟩
              go_wp2_with fail
              go_ret
              exact ⟨rfl, hx9.trans hx'⟩
            | false =>
              have bs := blk_setArg bd9 ar ha6 by_
              have BQS := Lib.hid (BQ9.out.far (p := ⟨w.heap.size, 3 + ar, none⟩) (Ne.symm g9) (.int .u64 by_))
              have hxs := hx9.set (p := ⟨w.heap.size, 3 + ar, none⟩) (Nat.le_refl _) (.int .u64 by_)
              have RUN2 := Lib.hid (fun W hW => RUN.out w3.heap.size ps (.inl rfl) (setArg ⟨nr, arch, ip, a0, a1, a2, a3, a4, a5⟩ ar by_) (.inr ⟨g0, g6, by first | rfl | exact HLB.out, by simp⟩) W hW)
              generalize setArg ⟨nr, arch, ip, a0, a1, a2, a3, a4, a5⟩ ar by_ = d2 at *
              obtain ⟨nr', arch', ip', b0, b1, b2, b3, b4, b5⟩ := d2
              unfold datC at bs
              dsimp only at bs
              obtain ⟨u9, hu9⟩ : ∃ u, (#[.int .u32 nr, .int .u32 arch, .int .u64 ip, .int .u64 a0, .int .u64 a1, .int .u64 a2, .int .u64 a3, .int .u64 a4, .int .u64 a5] : Array Value)[3 + ar]? = some u := by
                rcases (by omega : ar = 0 ∨ ar = 1 ∨ ar = 2 ∨ ar = 3 ∨ ar = 4 ∨ ar = 5) with rfl | rfl | rfl | rfl | rfl | rfl <;> exact ⟨_, rfl⟩
              have rx := (bd9.cell (3 + ar)).trans hu9
              have rz := bd9.frozen (3 + ar)
              clear hu9
              have r0 := (bs).cell 0
              have r1 := (bs).cell 1
              have r2 := (bs).cell 2
              have r3 := (bs).cell 3
              have r4 := (bs).cell 4
              have r5 := (bs).cell 5
              have r6 := (bs).cell 6
              have r7 := (bs).cell 7
              have r8 := (bs).cell 8
              go_wp2_with fail
              trace "STORED"
              refine (RUN2.out _ (InM.ofBlk BQS.out rfl)).mono ?_
              rintro e w8 ⟨rfl, hx'⟩
              go_wp2_with fail
              go_ret
              exact ⟨rfl, hxs.trans hx'⟩
      by_cases c2 : (n : Int) ≤ at_
      · have t1 : decide ((0 : Int) ≤ at_) = true := by simp; omega
        have t2 : decide (at_ < (n : Int)) = false := by simp; omega
        have t4 : decide (at_ < (0 : Int)) = false := by simp; omega
        have t5 : decide ((n : Int) ≤ at_) = true := by simp; omega
        clear c1 c2 bi6
        go_wp2_with fail
        by_cases a0 : arg < 0
        · have ga : decide ((0 : Int) ≤ arg) = false := by simp; omega
          clear a0
          go_loopw [20, 21] (fun ld it W' => ∃ k : Nat, k ≤ n ∧ ld = .bool false ∧ it = .int .i64 k ∧ Ext wr W') (fun _ it _ => n - (intOf it).toNat)
          case atStart => exact ⟨0, Nat.zero_le _, rfl, rfl, Ext.refl _⟩
          case round =>
            obtain ⟨k, hk, rfl, rfl, hv⟩ := hrel
            by_cases hlt : k < n
            · have hkp : k < ps.length := by rw [HC.out.1]; exact hlt
              obtain ⟨bA, oA, rfl, _⟩ := prog_some HM.out (Nat.lt_of_le_of_lt (Nat.zero_le _) hkp)
              obtain ⟨q0, q1, q2, q3⟩ := prog_cells (HM.out.ext ((hx6).trans hv)) hkp
              have k1 : (0 : Int) ≤ k := by omega
              have k2 : (k : Int) < n := by omega
              have k3 : (k : Int) < 300 := by omega
              generalize ps[k] = P at *
              obtain ⟨c2, t2, f2, m2⟩ := P
              dsimp only at q0 q1 q2 q3
              clear hkp
              rcases h32 : (c2 == 32) with _ | _
              all_goals
                go_wp2_with fail
                go_roundw
                case rel => exact ⟨k + 1, by omega, rfl, by go_num, hv⟩
                case measure => simp [intOf]; omega
            · obtain rfl : k = n := by omega
              have hx9 := (hx6).trans hv
              have bd9 := (bd6).ext hv
              have bq9 := (hb6).ext hv
              have BQ9 := Lib.hid bq9
              clear bq9
              have r0 := (bd9).cell 0
              have r1 := (bd9).cell 1
              have r2 := (bd9).cell 2
              have r3 := (bd9).cell 3
              have r4 := (bd9).cell 4
              have r5 := (bd9).cell 5
              have r6 := (bd9).cell 6
              have r7 := (bd9).cell 7
              have r8 := (bd9).cell 8
              go_wp2_with fail
              refine (RUN.out _ ps (.inl rfl) ⟨nr, arch, ip, a0, a1, a2, a3, a4, a5⟩ (.inl rfl) _ (InM.ofBlk BQ9.out rfl)).mono ?_
              rintro e w8 ⟨rfl, hx'⟩
              go_wp2_with fail
              go_ret
              exact ⟨rfl, hx9.trans hx'⟩
        by_cases a6 : 6 ≤ arg
        · have ga : decide ((0 : Int) ≤ arg) = true := by simp; omega
          have gb : decide (arg < (6 : Int)) = false := by simp; omega
          clear a0 a6
          go_loopw [20, 21] (fun ld it W' => ∃ k : Nat, k ≤ n ∧ ld = .bool false ∧ it = .int .i64 k ∧ Ext wr W') (fun _ it _ => n - (intOf it).toNat)
          case atStart => exact ⟨0, Nat.zero_le _, rfl, rfl, Ext.refl _⟩
          case round =>
            obtain ⟨k, hk, rfl, rfl, hv⟩ := hrel
            by_cases hlt : k < n
            · have hkp : k < ps.length := by rw [HC.out.1]; exact hlt
              obtain ⟨bA, oA, rfl, _⟩ := prog_some HM.out (Nat.lt_of_le_of_lt (Nat.zero_le _) hkp)
              obtain ⟨q0, q1, q2, q3⟩ := prog_cells (HM.out.ext ((hx6).trans hv)) hkp
              have k1 : (0 : Int) ≤ k := by omega
              have k2 : (k : Int) < n := by omega
              have k3 : (k : Int) < 300 := by omega
              generalize ps[k] = P at *
              obtain ⟨c2, t2, f2, m2⟩ := P
              dsimp only at q0 q1 q2 q3
              clear hkp
              rcases h32 : (c2 == 32) with _ | _
              all_goals
                go_wp2_with fail
                go_roundw
                case rel => exact ⟨k + 1, by omega, rfl, by go_num, hv⟩
                case measure => simp [intOf]; omega
            · obtain rfl : k = n := by omega
              have hx9 := (hx6).trans hv
              have bd9 := (bd6).ext hv
              have bq9 := (hb6).ext hv
              have BQ9 := Lib.hid bq9
              clear bq9
              have r0 := (bd9).cell 0
              have r1 := (bd9).cell 1
              have r2 := (bd9).cell 2
              have r3 := (bd9).cell 3
              have r4 := (bd9).cell 4
              have r5 := (bd9).cell 5
              have r6 := (bd9).cell 6
              have r7 := (bd9).cell 7
              have r8 := (bd9).cell 8
              go_wp2_with fail
              refine (RUN.out _ ps (.inl rfl) ⟨nr, arch, ip, a0, a1, a2, a3, a4, a5⟩ (.inl rfl) _ (InM.ofBlk BQ9.out rfl)).mono ?_
              rintro e w8 ⟨rfl, hx'⟩
              go_wp2_with fail
              go_ret
              exact ⟨rfl, hx9.trans hx'⟩
        obtain ⟨ar, rfl⟩ : ∃ ar : Nat, arg = ar := ⟨arg.toNat, by omega⟩
        have ga : decide ((0 : Int) ≤ (ar : Int)) = true := by simp
        have gb : decide ((ar : Int) < (6 : Int)) = true := by simp; omega
        have ha6 : ar < 6 := by omega
        have g0 : (0 : Int) ≤ ar := by omega
        have g6 : (ar : Int) < 6 := by omega
        have w64 : IntKind.i64.wrap (2 + (ar : Int)) = 2 + ar := IntWalk.i64_in _ (by omega)
        have w32 : IntKind.u32.wrap (2 + (ar : Int)) = 2 + ar := IntWalk.u32_in _ (by omega)
        clear a0 a6
        go_loopw [20, 21] (fun ld it W' => ∃ k : Nat, k ≤ n ∧ ld = .bool (loadsB ar (ps.take k)) ∧ it = .int .i64 k ∧ Ext wr W') (fun _ it _ => n - (intOf it).toNat)
        case atStart => exact ⟨0, Nat.zero_le _, rfl, rfl, Ext.refl _⟩
        case round =>
          obtain ⟨k, hk, rfl, rfl, hv⟩ := hrel
          by_cases hlt : k < n
          · have hkp : k < ps.length := by rw [HC.out.1]; exact hlt
            have HS := loadsB_succ ar ps k hkp
            have hi := HC.out.2.1 _ (List.getElem_mem hkp)
            obtain ⟨bA, oA, rfl, _⟩ := prog_some HM.out (Nat.lt_of_le_of_lt (Nat.zero_le _) hkp)
            obtain ⟨q0, q1, q2, q3⟩ := prog_cells (HM.out.ext ((hx6).trans hv)) hkp
            have k1 : (0 : Int) ≤ k := by omega
            have k2 : (k : Int) < n := by omega
            have k3 : (k : Int) < 300 := by omega
            generalize ps[k] = P at *
            obtain ⟨c2, t2, f2, m2⟩ := P
            dsimp only at q0 q1 q2 q3
            unfold loadsI at HS
            dsimp only at HS
            rw [ga, gb] at HS
            have hm0 : 0 ≤ m2 := hi.2.2.2.1
            have hm1 : m2 < 4294967296 := by have h : m2 < 256 ^ 4 := hi.2.2.2.2; omega
            have hq8 : IntKind.u32.wrap (m2.tdiv 8) = m2 / 8 := IntWalk.u32_quo m2 8 ⟨hm0, by omega, by omega⟩
            clear hi hkp
            generalize loadsB (ar : Int) (ps.take k) = LB at *
            cases LB with
            | true =>
              have HSh := Lib.hid HS
              clear HS
              go_wp2_with fail
              go_roundw
              case rel => exact ⟨k + 1, by omega, by rw [HSh.out, Bool.true_or], by go_num, hv⟩
              case measure => simp [intOf]; omega
            | false =>
              rcases h32 : (c2 == 32) with _ | _
              · rw [h32] at HS
                have HSh := Lib.hid HS
                clear HS
                go_wp2_with fail
                go_roundw
                case rel => exact ⟨k + 1, by omega, by rw [HSh.out]; rfl, by go_num, hv⟩
                case measure => simp [intOf]; omega
              · rw [h32] at HS
                have HSh := Lib.hid HS
                clear HS
                rcases h8 : (m2 / 8 == 2 + (ar : Int)) with _ | _
                all_goals
                  have H8 := Lib.hid h8
                  go_wp2_with fail
                  go_roundw
                  case rel => exact ⟨k + 1, by omega, by rw [HSh.out, H8.out]; rfl, by go_num, hv⟩
                  case measure => simp [intOf]; omega
          · obtain rfl : k = n := by omega
            rw [List.take_of_length_le (by rw [HC.out.1]; exact Nat.le_refl _)]
            have hx9 := (hx6).trans hv
            have bd9 := (bd6).ext hv
            have bq9 := (hb6).ext hv
            have BQ9 := Lib.hid bq9
            have g9 : w.heap.size ≠ w3.heap.size := by omega
            clear bq9
            generalize hLB : loadsB (ar : Int) ps = LB at *
            have HLB := Lib.hid hLB
            clear hLB
            cases LB with
            | true =>
              have r0 := (bd9).cell 0
              have r1 := (bd9).cell 1
              have r2 := (bd9).cell 2
              have r3 := (bd9).cell 3
              have r4 := (bd9).cell 4
              have r5 := (bd9).cell 5
              have r6 := (bd9).cell 6
              have r7 := (bd9).cell 7
              have r8 := (bd9).cell 8
              go_wp2_with fail
              refine (RUN.out _ ps (.inl rfl) ⟨nr, arch, ip, a0, a1, a2, a3, a4, a5⟩ (.inl rfl) _ (InM.ofBlk BQ9.out rfl)).mono ?_
              rintro e w8 ⟨rfl, hx'⟩
              go_wp2_with fail
              go_ret
              exact ⟨rfl, hx9.trans hx'⟩
            | false =>
              have bs := blk_setArg bd9 ar ha6 by_
              have BQS := Lib.hid (BQ9.out.far (p := ⟨w.heap.size, 3 + ar, none⟩) (Ne.symm g9) (.int .u64 by_))
              have hxs := hx9.set (p := ⟨w.heap.size, 3 + ar, none⟩) (Nat.le_refl _) (.int .u64 by_)
              have RUN2 := Lib.hid (fun W hW => RUN.out w3.heap.size ps (.inl rfl) (setArg ⟨nr, arch, ip, a0, a1, a2, a3, a4, a5⟩ ar by_) (.inr ⟨g0, g6, by first | rfl | exact HLB.out, by simp⟩) W hW)
              generalize setArg ⟨nr, arch, ip, a0, a1, a2, a3, a4, a5⟩ ar by_ = d2 at *
              obtain ⟨nr', arch', ip', b0, b1, b2, b3, b4, b5⟩ := d2
              unfold datC at bs
              dsimp only at bs
              obtain ⟨u9, hu9⟩ : ∃ u, (#[.int .u32 nr, .int .u32 arch, .int .u64 ip, .int .u64 a0, .int .u64 a1, .int .u64 a2, .int .u64 a3, .int .u64 a4, .int .u64 a5] : Array Value)[3 + ar]? = some u := by
                rcases (by omega : ar = 0 ∨ ar = 1 ∨ ar = 2 ∨ ar = 3 ∨ ar = 4 ∨ ar = 5) with rfl | rfl | rfl | rfl | rfl | rfl <;> exact ⟨_, rfl⟩
              have rx := (bd9.cell (3 + ar)).trans hu9
              have rz := bd9.frozen (3 + ar)
              clear hu9
              have r0 := (bs).cell 0
              have r1 := (bs).cell 1
              have r2 := (bs).cell 2
              have r3 := (bs).cell 3
              have r4 := (bs).cell 4
              have r5 := (bs).cell 5
              have r6 := (bs).cell 6
              have r7 := (bs).cell 7
              have r8 := (bs).cell 8
              go_wp2_with fail
              trace "STORED"
              refine (RUN2.out _ (InM.ofBlk BQS.out rfl)).mono ?_
              rintro e w8 ⟨rfl, hx'⟩
              go_wp2_with fail
              go_ret
              exact ⟨rfl, hxs.trans hx'⟩
      have t1 : decide ((0 : Int) ≤ at_) = true := by simp; omega
      have t2 : decide (at_ < (n : Int)) = true := by simp; omega
      have t4 : decide (at_ < (0 : Int)) = false := by simp; omega
      have t5 : decide ((n : Int) ≤ at_) = false := by simp; omega
      cases D with
      | true =>
        clear c1 c2 bi6
        go_wp2_with fail
        by_cases a0 : arg < 0
        · have ga : decide ((0 : Int) ≤ arg) = false := by simp; omega
          clear a0
          go_loopw [20, 21] (fun ld it W' => ∃ k : Nat, k ≤ n ∧ ld = .bool false ∧ it = .int .i64 k ∧ Ext wr W') (fun _ it _ => n - (intOf it).toNat)
          case atStart => exact ⟨0, Nat.zero_le _, rfl, rfl, Ext.refl _⟩
          case round =>
            obtain ⟨k, hk, rfl, rfl, hv⟩ := hrel
            by_cases hlt : k < n
            · have hkp : k < ps.length := by rw [HC.out.1]; exact hlt
              obtain ⟨bA, oA, rfl, _⟩ := prog_some HM.out (Nat.lt_of_le_of_lt (Nat.zero_le _) hkp)
              obtain ⟨q0, q1, q2, q3⟩ := prog_cells (HM.out.ext ((hx6).trans hv)) hkp
              have k1 : (0 : Int) ≤ k := by omega
              have k2 : (k : Int) < n := by omega
              have k3 : (k : Int) < 300 := by omega
              generalize ps[k] = P at *
              obtain ⟨c2, t2, f2, m2⟩ := P
              dsimp only at q0 q1 q2 q3
              clear hkp
              rcases h32 : (c2 == 32) with _ | _
              all_goals
                go_wp2_with fail
                go_roundw
                case rel => exact ⟨k + 1, by omega, rfl, by go_num, hv⟩
                case measure => simp [intOf]; omega
            · obtain rfl : k = n := by omega
              have hx9 := (hx6).trans hv
              have bd9 := (bd6).ext hv
              have bq9 := (hb6).ext hv
              have BQ9 := Lib.hid bq9
              clear bq9
              have r0 := (bd9).cell 0
              have r1 := (bd9).cell 1
              have r2 := (bd9).cell 2
              have r3 := (bd9).cell 3
              have r4 := (bd9).cell 4
              have r5 := (bd9).cell 5
              have r6 := (bd9).cell 6
              have r7 := (bd9).cell 7
              have r8 := (bd9).cell 8
              go_wp2_with fail
              refine (RUN.out _ ps (.inl rfl) ⟨nr, arch, ip, a0, a1, a2, a3, a4, a5⟩ (.inl rfl) _ (InM.ofBlk BQ9.out rfl)).mono ?_
              rintro e w8 ⟨rfl, hx'⟩
              go_wp2_with fail
              go_ret
              exact ⟨rfl, hx9.trans hx'⟩
        by_cases a6 : 6 ≤ arg
        · have ga : decide ((0 : Int) ≤ arg) = true := by simp; omega
          have gb : decide (arg < (6 : Int)) = false := by simp; omega
          clear a0 a6
          go_loopw [20, 21] (fun ld it W' => ∃ k : Nat, k ≤ n ∧ ld = .bool false ∧ it = .int .i64 k ∧ Ext wr W') (fun _ it _ => n - (intOf it).toNat)
          case atStart => exact ⟨0, Nat.zero_le _, rfl, rfl, Ext.refl _⟩
          case round =>
            obtain ⟨k, hk, rfl, rfl, hv⟩ := hrel
            by_cases hlt : k < n
            · have hkp : k < ps.length := by rw [HC.out.1]; exact hlt
              obtain ⟨bA, oA, rfl, _⟩ := prog_some HM.out (Nat.lt_of_le_of_lt (Nat.zero_le _) hkp)
              obtain ⟨q0, q1, q2, q3⟩ := prog_cells (HM.out.ext ((hx6).trans hv)) hkp
              have k1 : (0 : Int) ≤ k := by omega
              have k2 : (k : Int) < n := by omega
              have k3 : (k : Int) < 300 := by omega
              generalize ps[k] = P at *
              obtain ⟨c2, t2, f2, m2⟩ := P
              dsimp only at q0 q1 q2 q3
              clear hkp
              rcases h32 : (c2 == 32) with _ | _
              all_goals
                go_wp2_with fail
                go_roundw
                case rel => exact ⟨k + 1, by omega, rfl, by go_num, hv⟩
                case measure => simp [intOf]; omega
            · obtain rfl : k = n := by omega
              have hx9 := (hx6).trans hv
              have bd9 := (bd6).ext hv
              have bq9 := (hb6).ext hv
              have BQ9 := Lib.hid bq9
              clear bq9
              have r0 := (bd9).cell 0
              have r1 := (bd9).cell 1
              have r2 := (bd9).cell 2
              have r3 := (bd9).cell 3
              have r4 := (bd9).cell 4
              have r5 := (bd9).cell 5
              have r6 := (bd9).cell 6
              have r7 := (bd9).cell 7
              have r8 := (bd9).cell 8
              go_wp2_with fail
              refine (RUN.out _ ps (.inl rfl) ⟨nr, arch, ip, a0, a1, a2, a3, a4, a5⟩ (.inl rfl) _ (InM.ofBlk BQ9.out rfl)).mono ?_
              rintro e w8 ⟨rfl, hx'⟩
              go_wp2_with fail
              go_ret
              exact ⟨rfl, hx9.trans hx'⟩
        obtain ⟨ar, rfl⟩ : ∃ ar : Nat, arg = ar := ⟨arg.toNat, by omega⟩
        have ga : decide ((0 : Int) ≤ (ar : Int)) = true := by simp
        have gb : decide ((ar : Int) < (6 : Int)) = true := by simp; omega
        have ha6 : ar < 6 := by omega
        have g0 : (0 : Int) ≤ ar := by omega
        have g6 : (ar : Int) < 6 := by omega
        have w64 : IntKind.i64.wrap (2 + (ar : Int)) = 2 + ar := IntWalk.i64_in _ (by omega)
        have w32 : IntKind.u32.wrap (2 + (ar : Int)) = 2 + ar := IntWalk.u32_in _ (by omega)
        clear a0 a6
        go_loopw [20, 21] (fun ld it W' => ∃ k : Nat, k ≤ n ∧ ld = .bool (loadsB ar (ps.take k)) ∧ it = .int .i64 k ∧ Ext wr W') (fun _ it _ => n - (intOf it).toNat)
        case atStart => exact ⟨0, Nat.zero_le _, rfl, rfl, Ext.refl _⟩
        case round =>
          obtain ⟨k, hk, rfl, rfl, hv⟩ := hrel
          by_cases hlt : k < n
          · have hkp : k < ps.length := by rw [HC.out.1]; exact hlt
            have HS := loadsB_succ ar ps k hkp
            have hi := HC.out.2.1 _ (List.getElem_mem hkp)
            obtain ⟨bA, oA, rfl, _⟩ := prog_some HM.out (Nat.lt_of_le_of_lt (Nat.zero_le _) hkp)
            obtain ⟨q0, q1, q2, q3⟩ := prog_cells (HM.out.ext ((hx6).trans hv)) hkp
            have k1 : (0 : Int) ≤ k := by omega
            have k2 : (k : Int) < n := by omega
            have k3 : (k : Int) < 300 := by omega
            generalize ps[k] = P at *
            obtain ⟨c2, t2, f2, m2⟩ := P
            dsimp only at q0 q1 q2 q3
            unfold loadsI at HS
            dsimp only at HS
            rw [ga, gb] at HS
            have hm0 : 0 ≤ m2 := hi.2.2.2.1
            have hm1 : m2 < 4294967296 := by have h : m2 < 256 ^ 4 := hi.2.2.2.2; omega
            have hq8 : IntKind.u32.wrap (m2.tdiv 8) = m2 / 8 := IntWalk.u32_quo m2 8 ⟨hm0, by omega, by omega⟩
            clear hi hkp
            generalize loadsB (ar : Int) (ps.take k) = LB at *
            cases LB with
            | true =>
              have HSh := Lib.hid HS
              clear HS
              go_wp2_with fail
              go_roundw
              case rel => exact ⟨k + 1, by omega, by rw [HSh.out, Bool.true_or], by go_num, hv⟩
              case measure => simp [intOf]; omega
            | false =>
              rcases h32 : (c2 == 32) with _ | _
              · rw [h32] at HS
                have HSh := Lib.hid HS
                clear HS
                go_wp2_with fail
                go_roundw
                case rel => exact ⟨k + 1, by omega, by rw [HSh.out]; rfl, by go_num, hv⟩
                case measure => simp [intOf]; omega
              · rw [h32] at HS
                have HSh := Lib.hid HS
                clear HS
                rcases h8 : (m2 / 8 == 2 + (ar : Int)) with _ | _
                all_goals
                  have H8 := Lib.hid h8
                  go_wp2_with fail
                  go_roundw
                  case rel => exact ⟨k + 1, by omega, by rw [HSh.out, H8.out]; rfl, by go_num, hv⟩
                  case measure => simp [intOf]; omega
          · obtain rfl : k = n := by omega
            rw [List.take_of_length_le (by rw [HC.out.1]; exact Nat.le_refl _)]
            have hx9 := (hx6).trans hv
            have bd9 := (bd6).ext hv
            have bq9 := (hb6).ext hv
            have BQ9 := Lib.hid bq9
            have g9 : w.heap.size ≠ w3.heap.size := by omega
            clear bq9
            generalize hLB : loadsB (ar : Int) ps = LB at *
            have HLB := Lib.hid hLB
            clear hLB
            cases LB with
            | true =>
              have r0 := (bd9).cell 0
              have r1 := (bd9).cell 1
              have r2 := (bd9).cell 2
              have r3 := (bd9).cell 3
              have r4 := (bd9).cell 4
              have r5 := (bd9).cell 5
              have r6 := (bd9).cell 6
              have r7 := (bd9).cell 7
              have r8 := (bd9).cell 8
              go_wp2_with fail
              refine (RUN.out _ ps (.inl rfl) ⟨nr, arch, ip, a0, a1, a2, a3, a4, a5⟩ (.inl rfl) _ (InM.ofBlk BQ9.out rfl)).mono ?_
              rintro e w8 ⟨rfl, hx'⟩
              go_wp2_with fail
              go_ret
              exact ⟨rfl, hx9.trans hx'⟩
            | false =>
              have bs := blk_setArg bd9 ar ha6 by_
              have BQS := Lib.hid (BQ9.out.far (p := ⟨w.heap.size, 3 + ar, none⟩) (Ne.symm g9) (.int .u64 by_))
              have hxs := hx9.set (p := ⟨w.heap.size, 3 + ar, none⟩) (Nat.le_refl _) (.int .u64 by_)
              have RUN2 := Lib.hid (fun W hW => RUN.out w3.heap.size ps (.inl rfl) (setArg ⟨nr, arch, ip, a0, a1, a2, a3, a4, a5⟩ ar by_) (.inr ⟨g0, g6, by first | rfl | exact HLB.out, by simp⟩) W hW)
              generalize setArg ⟨nr, arch, ip, a0, a1, a2, a3, a4, a5⟩ ar by_ = d2 at *
              obtain ⟨nr', arch', ip', b0, b1, b2, b3, b4, b5⟩ := d2
              unfold datC at bs
              dsimp only at bs
              obtain ⟨u9, hu9⟩ : ∃ u, (#[.int .u32 nr, .int .u32 arch, .int .u64 ip, .int .u64 a0, .int .u64 a1, .int .u64 a2, .int .u64 a3, .int .u64 a4, .int .u64 a5] : Array Value)[3 + ar]? = some u := by
                rcases (by omega : ar = 0 ∨ ar = 1 ∨ ar = 2 ∨ ar = 3 ∨ ar = 4 ∨ ar = 5) with rfl | rfl | rfl | rfl | rfl | rfl <;> exact ⟨_, rfl⟩
              have rx := (bd9.cell (3 + ar)).trans hu9
              have rz := bd9.frozen (3 + ar)
              clear hu9
              have r0 := (bs).cell 0
              have r1 := (bs).cell 1
              have r2 := (bs).cell 2
              have r3 := (bs).cell 3
              have r4 := (bs).cell 4
              have r5 := (bs).cell 5
              have r6 := (bs).cell 6
              have r7 := (bs).cell 7
              have r8 := (bs).cell 8
              go_wp2_with fail
              trace "STORED"
              refine (RUN2.out _ (InM.ofBlk BQS.out rfl)).mono ?_
              rintro e w8 ⟨rfl, hx'⟩
              go_wp2_with fail
              go_ret
              exact ⟨rfl, hxs.trans hx'⟩
      | false =>
        obtain ⟨j, rfl⟩ : ∃ j : Nat, at_ = j := ⟨at_.toNat, by omega⟩
        have t0 : (0 : Int) ≤ j := by omega
        have t3 : (j : Int) < n := by omega
        have q0 := bi6.cell 0
        have q1 := bi6.cell 1
        have q2 := bi6.cell 2
        have q3 := bi6.cell 3
        have PS := Lib.hid (splice_pc4 ⟨co, jt, jf, kk⟩ ps j (by have := HC.out.1; omega))
        have HQ1 := Lib.hid (fun (Q : List Ins) (h : Q = ps.set j ⟨co, jt, jf, kk⟩) => show Q = ps ∨ (0 ≤ (j : Int) ∧ (j : Int) < n ∧ (j : Int) ∉ ints tr ∧ Q = ps.set (j : Int).toNat ⟨co, jt, jf, kk⟩) from .inr ⟨t0, t3, by have := HD.out; simpa using this, by rw [h]; simp⟩)
        go_wp2_with (refine wpList_store_row rfl 32 (.tmp 76) (.tmp 75) rfl w3.heap.size (j * 4) 32 (pc ps) #[.int .u16 co, .int .u8 jt, .int .u8 jf, .int .u32 kk] rfl rfl hb6 (by rw [L1.out]; simp; omega) (by kernel_rfl) (by simp [Value.oneCell']) ?_; intro w7 hb7 hg7)
        clear q0 q1 q2 q3
        have hb8 : Blk w7 w3.heap.size 32 (pc (ps.set j ⟨co, jt, jf, kk⟩)).toArray := by
          rw [← PS.out]; exact hb7
        have bi7 := bi6.grown hg7 (fun e => by injection e; omega)
        have bd7 := bd6.grown hg7 (fun e => by injection e; omega)
        have hx7 := hx6.grown hg7 (fun k e => by cases e; omega)
        clear hb7 hg7 bi6 bd6 hx6 hb6
        by_cases a0 : arg < 0
        · have ga : decide ((0 : Int) ≤ arg) = false := by simp; omega
          clear a0
          go_loopw [20, 21] (fun ld it W' => ∃ k : Nat, k ≤ n ∧ ld = .bool false ∧ it = .int .i64 k ∧ Ext w7 W') (fun _ it _ => n - (intOf it).toNat)
          case atStart => exact ⟨0, Nat.zero_le _, rfl, rfl, Ext.refl _⟩
          case round =>
            obtain ⟨k, hk, rfl, rfl, hv⟩ := hrel
            by_cases hlt : k < n
            · have hkp : k < ps.length := by rw [HC.out.1]; exact hlt
              obtain ⟨bA, oA, rfl, _⟩ := prog_some HM.out (Nat.lt_of_le_of_lt (Nat.zero_le _) hkp)
              obtain ⟨q0, q1, q2, q3⟩ := prog_cells (HM.out.ext ((hx7).trans hv)) hkp
              have k1 : (0 : Int) ≤ k := by omega
              have k2 : (k : Int) < n := by omega
              have k3 : (k : Int) < 300 := by omega
              generalize ps[k] = P at *
              obtain ⟨c2, t2, f2, m2⟩ := P
              dsimp only at q0 q1 q2 q3
              clear hkp
              rcases h32 : (c2 == 32) with _ | _
              all_goals
                go_wp2_with fail
                go_roundw
                case rel => exact ⟨k + 1, by omega, rfl, by go_num, hv⟩
                case measure => simp [intOf]; omega
            · obtain rfl : k = n := by omega
              have hx9 := (hx7).trans hv
              have bd9 := (bd7).ext hv
              have bq9 := (hb8).ext hv
              have BQ9 := Lib.hid bq9
              clear bq9
              have r0 := (bd9).cell 0
              have r1 := (bd9).cell 1
              have r2 := (bd9).cell 2
              have r3 := (bd9).cell 3
              have r4 := (bd9).cell 4
              have r5 := (bd9).cell 5
              have r6 := (bd9).cell 6
              have r7 := (bd9).cell 7
              have r8 := (bd9).cell 8
              go_wp2_with fail
              refine (RUN.out _ (ps.set j ⟨co, jt, jf, kk⟩) (HQ1.out _ rfl) ⟨nr, arch, ip, a0, a1, a2, a3, a4, a5⟩ (.inl rfl) _ (InM.ofBlk BQ9.out rfl)).mono ?_
              rintro e w8 ⟨rfl, hx'⟩
              go_wp2_with fail
              go_ret
              exact ⟨rfl, hx9.trans hx'⟩
        by_cases a6 : 6 ≤ arg
        · have ga : decide ((0 : Int) ≤ arg) = true := by simp; omega
          have gb : decide (arg < (6 : Int)) = false := by simp; omega
          clear a0 a6
          go_loopw [20, 21] (fun ld it W' => ∃ k : Nat, k ≤ n ∧ ld = .bool false ∧ it = .int .i64 k ∧ Ext w7 W') (fun _ it _ => n - (intOf it).toNat)
          case atStart => exact ⟨0, Nat.zero_le _, rfl, rfl, Ext.refl _⟩
          case round =>
            obtain ⟨k, hk, rfl, rfl, hv⟩ := hrel
            by_cases hlt : k < n
            · have hkp : k < ps.length := by rw [HC.out.1]; exact hlt
              obtain ⟨bA, oA, rfl, _⟩ := prog_some HM.out (Nat.lt_of_le_of_lt (Nat.zero_le _) hkp)
              obtain ⟨q0, q1, q2, q3⟩ := prog_cells (HM.out.ext ((hx7).trans hv)) hkp
              have k1 : (0 : Int) ≤ k := by omega
              have k2 : (k : Int) < n := by omega
              have k3 : (k : Int) < 300 := by omega
              generalize ps[k] = P at *
              obtain ⟨c2, t2, f2, m2⟩ := P
              dsimp only at q0 q1 q2 q3
              clear hkp
              rcases h32 : (c2 == 32) with _ | _
              all_goals
                go_wp2_with fail
                go_roundw
                case rel => exact ⟨k + 1, by omega, rfl, by go_num, hv⟩
                case measure => simp [intOf]; omega
            · obtain rfl : k = n := by omega
              have hx9 := (hx7).trans hv
              have bd9 := (bd7).ext hv
              have bq9 := (hb8).ext hv
              have BQ9 := Lib.hid bq9
              clear bq9
              have r0 := (bd9).cell 0
              have r1 := (bd9).cell 1
              have r2 := (bd9).cell 2
              have r3 := (bd9).cell 3
              have r4 := (bd9).cell 4
              have r5 := (bd9).cell 5
              have r6 := (bd9).cell 6
              have r7 := (bd9).cell 7
              have r8 := (bd9).cell 8
              go_wp2_with fail
              refine (RUN.out _ (ps.set j ⟨co, jt, jf, kk⟩) (HQ1.out _ rfl) ⟨nr, arch, ip, a0, a1, a2, a3, a4, a5⟩ (.inl rfl) _ (InM.ofBlk BQ9.out rfl)).mono ?_
              rintro e w8 ⟨rfl, hx'⟩
              go_wp2_with fail
              go_ret
              exact ⟨rfl, hx9.trans hx'⟩
        obtain ⟨ar, rfl⟩ : ∃ ar : Nat, arg = ar := ⟨arg.toNat, by omega⟩
        have ga : decide ((0 : Int) ≤ (ar : Int)) = true := by simp
        have gb : decide ((ar : Int) < (6 : Int)) = true := by simp; omega
        have ha6 : ar < 6 := by omega
        have g0 : (0 : Int) ≤ ar := by omega
        have g6 : (ar : Int) < 6 := by omega
        have w64 : IntKind.i64.wrap (2 + (ar : Int)) = 2 + ar := IntWalk.i64_in _ (by omega)
        have w32 : IntKind.u32.wrap (2 + (ar : Int)) = 2 + ar := IntWalk.u32_in _ (by omega)
        clear a0 a6
        go_loopw [20, 21] (fun ld it W' => ∃ k : Nat, k ≤ n ∧ ld = .bool (loadsB ar (ps.take k)) ∧ it = .int .i64 k ∧ Ext w7 W') (fun _ it _ => n - (intOf it).toNat)
        case atStart => exact ⟨0, Nat.zero_le _, rfl, rfl, Ext.refl _⟩
        case round =>
          obtain ⟨k, hk, rfl, rfl, hv⟩ := hrel
          by_cases hlt : k < n
          · have hkp : k < ps.length := by rw [HC.out.1]; exact hlt
            have HS := loadsB_succ ar ps k hkp
            have hi := HC.out.2.1 _ (List.getElem_mem hkp)
            obtain ⟨bA, oA, rfl, _⟩ := prog_some HM.out (Nat.lt_of_le_of_lt (Nat.zero_le _) hkp)
            obtain ⟨q0, q1, q2, q3⟩ := prog_cells (HM.out.ext ((hx7).trans hv)) hkp
            have k1 : (0 : Int) ≤ k := by omega
            have k2 : (k : Int) < n := by omega
            have k3 : (k : Int) < 300 := by omega
            generalize ps[k] = P at *
            obtain ⟨c2, t2, f2, m2⟩ := P
            dsimp only at q0 q1 q2 q3
            unfold loadsI at HS
            dsimp only at HS
            rw [ga, gb] at HS
            have hm0 : 0 ≤ m2 := hi.2.2.2.1
            have hm1 : m2 < 4294967296 := by have h : m2 < 256 ^ 4 := hi.2.2.2.2; omega
            have hq8 : IntKind.u32.wrap (m2.tdiv 8) = m2 / 8 := IntWalk.u32_quo m2 8 ⟨hm0, by omega, by omega⟩
            clear hi hkp
            generalize loadsB (ar : Int) (ps.take k) = LB at *
            cases LB with
            | true =>
              have HSh := Lib.hid HS
              clear HS
              go_wp2_with fail
              go_roundw
              case rel => exact ⟨k + 1, by omega, by rw [HSh.out, Bool.true_or], by go_num, hv⟩
              case measure => simp [intOf]; omega
            | false =>
              rcases h32 : (c2 == 32) with _ | _
              · rw [h32] at HS
                have HSh := Lib.hid HS
                clear HS
                go_wp2_with fail
                go_roundw
                case rel => exact ⟨k + 1, by omega, by rw [HSh.out]; rfl, by go_num, hv⟩
                case measure => simp [intOf]; omega
              · rw [h32] at HS
                have HSh := Lib.hid HS
                clear HS
                rcases h8 : (m2 / 8 == 2 + (ar : Int)) with _ | _
                all_goals
                  have H8 := Lib.hid h8
                  go_wp2_with fail
                  go_roundw
                  case rel => exact ⟨k + 1, by omega, by rw [HSh.out, H8.out]; rfl, by go_num, hv⟩
                  case measure => simp [intOf]; omega
          · obtain rfl : k = n := by omega
            rw [List.take_of_length_le (by rw [HC.out.1]; exact Nat.le_refl _)]
            have hx9 := (hx7).trans hv
            have bd9 := (bd7).ext hv
            have bq9 := (hb8).ext hv
            have BQ9 := Lib.hid bq9
            have g9 : w.heap.size ≠ w3.heap.size := by omega
            clear bq9
            generalize hLB : loadsB (ar : Int) ps = LB at *
            have HLB := Lib.hid hLB
            clear hLB
            cases LB with
            | true =>
              have r0 := (bd9).cell 0
              have r1 := (bd9).cell 1
              have r2 := (bd9).cell 2
              have r3 := (bd9).cell 3
              have r4 := (bd9).cell 4
              have r5 := (bd9).cell 5
              have r6 := (bd9).cell 6
              have r7 := (bd9).cell 7
              have r8 := (bd9).cell 8
              go_wp2_with fail
              refine (RUN.out _ (ps.set j ⟨co, jt, jf, kk⟩) (HQ1.out _ rfl) ⟨nr, arch, ip, a0, a1, a2, a3, a4, a5⟩ (.inl rfl) _ (InM.ofBlk BQ9.out rfl)).mono ?_
              rintro e w8 ⟨rfl, hx'⟩
              go_wp2_with fail
              go_ret
              exact ⟨rfl, hx9.trans hx'⟩
            | false =>
              have bi9 := bi7.ext hv
              have q0 := bi9.cell 0
              rcases h32 : (co != 32) with _ | _
              · skip
                have r0 := (bd9).cell 0
                have r1 := (bd9).cell 1
                have r2 := (bd9).cell 2
                have r3 := (bd9).cell 3
                have r4 := (bd9).cell 4
                have r5 := (bd9).cell 5
                have r6 := (bd9).cell 6
                have r7 := (bd9).cell 7
                have r8 := (bd9).cell 8
                go_wp2_with fail
                refine (RUN.out _ (ps.set j ⟨co, jt, jf, kk⟩) (HQ1.out _ rfl) ⟨nr, arch, ip, a0, a1, a2, a3, a4, a5⟩ (.inl rfl) _ (InM.ofBlk BQ9.out rfl)).mono ?_
                rintro e w8 ⟨rfl, hx'⟩
                go_wp2_with fail
                go_ret
                exact ⟨rfl, hx9.trans hx'⟩
              · skip
                have bs := blk_setArg bd9 ar ha6 by_
                have BQS := Lib.hid (BQ9.out.far (p := ⟨w.heap.size, 3 + ar, none⟩) (Ne.symm g9) (.int .u64 by_))
                have hxs := hx9.set (p := ⟨w.heap.size, 3 + ar, none⟩) (Nat.le_refl _) (.int .u64 by_)
                have RUN2 := Lib.hid (fun W hW => RUN.out w3.heap.size (ps.set j ⟨co, jt, jf, kk⟩) (HQ1.out _ rfl) (setArg ⟨nr, arch, ip, a0, a1, a2, a3, a4, a5⟩ ar by_) (.inr ⟨g0, g6, by first | rfl | exact HLB.out, by simp⟩) W hW)
                generalize setArg ⟨nr, arch, ip, a0, a1, a2, a3, a4, a5⟩ ar by_ = d2 at *
                obtain ⟨nr', arch', ip', b0, b1, b2, b3, b4, b5⟩ := d2
                unfold datC at bs
                dsimp only at bs
                obtain ⟨u9, hu9⟩ : ∃ u, (#[.int .u32 nr, .int .u32 arch, .int .u64 ip, .int .u64 a0, .int .u64 a1, .int .u64 a2, .int .u64 a3, .int .u64 a4, .int .u64 a5] : Array Value)[3 + ar]? = some u := by
                  rcases (by omega : ar = 0 ∨ ar = 1 ∨ ar = 2 ∨ ar = 3 ∨ ar = 4 ∨ ar = 5) with rfl | rfl | rfl | rfl | rfl | rfl <;> exact ⟨_, rfl⟩
                have rx := (bd9.cell (3 + ar)).trans hu9
                have rz := bd9.frozen (3 + ar)
                clear hu9
                have r0 := (bs).cell 0
                have r1 := (bs).cell 1
                have r2 := (bs).cell 2
                have r3 := (bs).cell 3
                have r4 := (bs).cell 4
                have r5 := (bs).cell 5
                have r6 := (bs).cell 6
                have r7 := (bs).cell 7
                have r8 := (bs).cell 8
                go_wp2_with fail
                trace "STORED"
                refine (RUN2.out _ (InM.ofBlk BQS.out rfl)).mono ?_
                rintro e w8 ⟨rfl, hx'⟩
                go_wp2_with fail
                go_ret
                exact ⟨rfl, hxs.trans hx'⟩
end Go.Proofs.Ytkejcfbhikpibaa
