import Derived.Test.YtjlhfmedaandeaaWalkOSame
import Derived.Test.YtjlhfmedaandeaaWalkOpt1
import Derived.Test.YtjlhfmedaandeaaCopyAll
import Derived.Test.YtjlhfmedaandeaaWords
/- The law OptDone, walked. -/
namespace Go.Proofs.Ytjlhfmedaandeaa
open Go.RowKit Go.ChangeShapes Go.WideShapes
set_option linter.unusedVariables false
set_option linter.unusedSimpArgs false

def spUp (ps : List Sy) (ans : Int) (k : Nat) : List Sy := (List.range ps.length).map fun i => if i < k ∧ aliveAt ps i = false then ⟨6, ans, 0, 0⟩ else ps.getD i zeroS
theorem spUp_len (ps : List Sy) (ans : Int) (k : Nat) : (spUp ps ans k).length = ps.length := by simp [spUp]
theorem spUp_get (ps : List Sy) (ans : Int) (k i : Nat) (h : i < ps.length) : (spUp ps ans k).getD i zeroS = if i < k ∧ aliveAt ps i = false then ⟨6, ans, 0, 0⟩ else ps.getD i zeroS := by
  simp [spUp, List.getD_eq_getElem?_getD, h]
theorem spUp_zero (ps : List Sy) (ans : Int) : spUp ps ans 0 = ps := ext_sy (spUp_len _ _ _) fun i hi => by
  rw [spUp_len] at hi
  rw [spUp_get ps ans 0 i hi, if_neg (by omega)]
theorem spUp_all (ps : List Sy) (ans : Int) : spUp ps ans ps.length = spoilL ps ans := ext_sy (by rw [spUp_len, spoil_len]) fun i hi => by
  rw [spUp_len] at hi
  rw [spUp_get ps ans _ i hi, spoil_get ps ans i hi]
  cases aliveAt ps i
  · rw [if_pos ⟨hi, rfl⟩, if_neg (by decide)]
  · rw [if_neg (fun x => by cases x.2), if_pos rfl]
theorem spUp_yes (ps : List Sy) (ans : Int) (k : Nat) (h : aliveAt ps k = true) : spUp ps ans (k + 1) = spUp ps ans k := ext_sy (by rw [spUp_len, spUp_len]) fun i hi => by
  rw [spUp_len] at hi
  rw [spUp_get ps ans _ i hi, spUp_get ps ans _ i hi]
  by_cases e : i = k
  · subst e
    rw [if_neg (fun x => by rw [h] at x; cases x.2), if_neg (by omega)]
  · by_cases e2 : i < k
    · have : (i < k + 1 ∧ aliveAt ps i = false) ↔ (i < k ∧ aliveAt ps i = false) := by constructor <;> exact fun x => ⟨by omega, x.2⟩
      simp only [this]
    · rw [if_neg (by omega), if_neg (by omega)]
theorem spUp_no (ps : List Sy) (ans : Int) (k : Nat) (hk : k < ps.length) (h : aliveAt ps k = false) : spUp ps ans (k + 1) = (spUp ps ans k).set k ⟨6, ans, 0, 0⟩ := ext_sy (by rw [List.length_set, spUp_len, spUp_len]) fun i hi => by
  rw [spUp_len] at hi
  rw [getD_set_sy, spUp_len, spUp_get ps ans _ i hi, spUp_get ps ans _ i hi]
  by_cases e : k = i
  · subst e
    rw [if_pos ⟨by omega, h⟩, if_pos ⟨rfl, hk⟩]
  · have hne : ¬ (k = i ∧ i < ps.length) := fun x => e x.1
    rw [if_neg hne]
    by_cases e2 : i < k
    · have : (i < k + 1 ∧ aliveAt ps i = false) ↔ (i < k ∧ aliveAt ps i = false) := by constructor <;> exact fun x => ⟨by omega, x.2⟩
      simp only [this]
    · rw [if_neg (by omega), if_neg (by omega)]
theorem spoil_ok {ps : List Sy} (hok : ∀ i ∈ ps, i.ok) (ans : Int) (ha : 0 ≤ ans ∧ ans < 4294967296) : ∀ i ∈ spoilL ps ans, i.ok := fun s hs => by
  unfold spoilL at hs
  obtain ⟨i, hi, rfl⟩ := List.mem_map.1 hs
  have hi' := List.mem_range.1 hi
  have hg : ps.getD i zeroS = ps[i] := by simp [List.getD_eq_getElem?_getD, hi']
  split
  · rw [hg]; exact hok _ (List.getElem_mem hi')
  · exact ⟨⟨by dsimp only; omega, by dsimp only; omega⟩, ha, by unfold I64; dsimp only; omega, by unfold I64; dsimp only; omega⟩
theorem size_sym4 : (Try.prog.info? 32).map (·.size) = some 4 := by kernel_rfl
set_option maxHeartbeats 4000000 in
set_option maxRecDepth 100000 in
theorem optDone_walk (A : Option Addr) (n c : Nat) (ps : List Sy) (hp : ps.length = n) (hm : n ≤ c ∧ c ≤ maxLen) (hok : ∀ i ∈ ps, i.ok) {w : World} (hM : InM w A (sc ps)) (d : Dat) (hd : d.ok) (ans : Int) (hans : (Lit.int .u32 ans).wf = true) (_ : World) :
    Calls Try.prog 10 #[.slice A n c, d.val, .int .u32 ans] w fun e w' => e = .returned (.bool true) ∧ Ext w w' := by
  have HAW := Lib.hid (fun W => awake26 W)
  have HM := Lib.hid hM
  by_cases big : 300 < n
  · have d1 : (300 : Int) < n := by omega
    clear hp hm hok hM hd hans
    obtain ⟨nr, arch, ip, a0, a1, a2, a3, a4, a5⟩ := d
    have hxd := (Ext.refl w).alloc (.cells #[.int .u32 nr, .int .u32 arch, .int .u64 ip, .int .u64 a0, .int .u64 a1, .int .u64 a2, .int .u64 a3, .int .u64 a4, .int .u64 a5] 53)
    have hbd := Blk.new w 53 #[.int .u32 nr, .int .u32 arch, .int .u64 ip, .int .u64 a0, .int .u64 a1, .int .u64 a2, .int .u64 a3, .int .u64 a4, .int .u64 a5]
    dsimp only [Dat.val] at *
    have HBD := Lib.hid hbd
    clear hbd
    go_enter Try.func10, Try.ntmps10
    go_wp2_with fail
    refine (HAW.out _).mono ?_
    rintro e w1 ⟨rfl, hx1⟩
    have hx := hxd.trans hx1
    have HB1 := Lib.hid (HBD.out.ext hx1)
    generalize w.heap.size = gd at *
    clear hxd hx1 HBD
    go_wp2_with fail
    go_ret
    exact ⟨rfl, hx⟩
  have d1 : ¬ (300 : Int) < n := by omega
  have hn : n ≤ maxLen := by omega
  have HMay := Lib.hid (fun W hW => codeMay A n c ps W hp hok hn hW)
  cases hmay : mayL ps with
  | false =>
    rw [hmay] at HMay
    clear hp hm hok hM hd hn big hmay hans
    obtain ⟨nr, arch, ip, a0, a1, a2, a3, a4, a5⟩ := d
    have hxd := (Ext.refl w).alloc (.cells #[.int .u32 nr, .int .u32 arch, .int .u64 ip, .int .u64 a0, .int .u64 a1, .int .u64 a2, .int .u64 a3, .int .u64 a4, .int .u64 a5] 53)
    have hbd := Blk.new w 53 #[.int .u32 nr, .int .u32 arch, .int .u64 ip, .int .u64 a0, .int .u64 a1, .int .u64 a2, .int .u64 a3, .int .u64 a4, .int .u64 a5]
    dsimp only [Dat.val] at *
    have HBD := Lib.hid hbd
    clear hbd
    go_enter Try.func10, Try.ntmps10
    go_wp2_with fail
    refine (HAW.out _).mono ?_
    rintro e w1 ⟨rfl, hx1⟩
    have hx := hxd.trans hx1
    have HB1 := Lib.hid (HBD.out.ext hx1)
    generalize w.heap.size = gd at *
    clear hxd hx1 HBD
    go_wp2_with fail
    refine (HMay.out _ (HM.out.ext hx)).mono ?_
    rintro e w3 ⟨rfl, hx3⟩
    go_wp2_with fail
    go_ret
    exact ⟨rfl, hx.trans hx3⟩
  | true =>
    have hY := mayL_of hmay
    have n1 : 1 ≤ n := by have := hY.l1; omega
    have ha := wf_u32 hans
    obtain ⟨bA, oA, rfl, hbA⟩ := sym_some hM (by omega)
    have HAL := Lib.hid (fun W hW => optTopYes (some ⟨bA, oA, none⟩) n c ps W hp hok hn hW hmay)
    have HR1 := Lib.hid (fun W hW => codeRunYes (some ⟨bA, oA, none⟩) n c ps W hp hok hW hmay d hd)
    have hrs : runS d.word (spoilL ps ans) = runS d.word ps := spoil_same hY ans d.word _ 0 0 (Nat.le_refl _) (by omega) (alive_zero hY)
    have HR2 := Lib.hid (fun g W hW => (by
      have h := codeRunYes (some ⟨g, 0, none⟩) n n (spoilL ps ans) W (by rw [spoil_len]; exact hp) (spoil_ok hok ans ha) hW (mayL_mk (spoil_may hY ans)) d hd
      rw [hrs] at h
      exact h))
    obtain ⟨i0, hi, hz0, hz1, hz2⟩ := info_parts info_sym
    obtain ⟨C, hC, hmk⟩ : ∃ C : Array Value, C.size = n * 4 ∧ ∀ w : World, (Instr.makeSlice 22 (.int .i64 (n : Int)) (.int .i64 (n : Int))).run Try.prog w = .ok (.slice (some ⟨w.heap.size, 0, none⟩) n n) (w.alloc (.cells C 32)) :=
      ⟨_, by rw [size_madeCells, hz1], fun w => make_run 22 32 i0 _ Try.underlying22 hi hz0 .i64 .i64 n n (Nat.le_refl _) (by omega) (by omega) w⟩
    have HC := Lib.hid hC
    have L1 := Lib.hid (show (sc ps).length = n * 4 from by rw [sc_length]; omega)
    have U1 := Lib.hid (sc_one ps)
    have HP := Lib.hid hp
    have HAY := Lib.hid (fun k hk => aliveT_get hY k hk)
    have SP0 := Lib.hid (spUp_zero ps ans)
    have SPL := Lib.hid (spUp_len ps ans)
    have SPY := Lib.hid (spUp_yes ps ans)
    have SPN := Lib.hid (spUp_no ps ans)
    have SPA := Lib.hid (spUp_all ps ans)
    rw [hmay] at HMay
    generalize runS d.word ps = S at *
    obtain ⟨sa, ss⟩ := S
    dsimp only at HR1 HR2
    have f6 : ((n : Int) != n) = false := by simp
    have f7 : (sa == sa) = true := by simp
    have f8 : ((ss : Int) == ss) = true := by simp
    clear hp hm hok hM hmay hn hY hbA n1 hd hans hi hz0 hz1 hz2 hC hrs
    have hn300 : n ≤ 300 := by omega
    clear big
    obtain ⟨nr, arch, ip, a0, a1, a2, a3, a4, a5⟩ := d
    have hxd := (Ext.refl w).alloc (.cells #[.int .u32 nr, .int .u32 arch, .int .u64 ip, .int .u64 a0, .int .u64 a1, .int .u64 a2, .int .u64 a3, .int .u64 a4, .int .u64 a5] 53)
    have hbd := Blk.new w 53 #[.int .u32 nr, .int .u32 arch, .int .u64 ip, .int .u64 a0, .int .u64 a1, .int .u64 a2, .int .u64 a3, .int .u64 a4, .int .u64 a5]
    dsimp only [Dat.val] at *
    have HBD := Lib.hid hbd
    clear hbd
    go_enter Try.func10, Try.ntmps10
    go_wp2_with fail
    refine (HAW.out _).mono ?_
    rintro e w1 ⟨rfl, hx1⟩
    have hx := hxd.trans hx1
    have HB1 := Lib.hid (HBD.out.ext hx1)
    generalize w.heap.size = gd at *
    clear hxd hx1 HBD
    go_wp2_with fail
    refine (HMay.out _ (HM.out.ext hx)).mono ?_
    rintro e w2 ⟨rfl, hx2⟩
    have hE2 := hx.trans hx2
    go_wp2_with fail
    refine (HAL.out _ (HM.out.ext hE2)).mono ?_
    rintro e w3 ⟨⟨gl, rfl, hbl⟩, hx3⟩
    have hE3 := hE2.trans hx3
    have HBL := Lib.hid hbl
    have hbc := Blk.new w3 32 C
    have hxc := (Ext.refl w3).alloc (.cells C 32)
    have HI3 := Lib.hid (HM.out.ext (hE3.trans hxc))
    clear hbl
    go_wp2_with (refine wpList_copy_all4 rfl (.tmp 44) (.tmp 45) 22 22 rfl 32 Try.underlying22 4 size_sym4 (by decide) w3.heap.size n c (some ⟨bA, oA, none⟩) rfl rfl C _ hbc (sc ps) L1.out HC.out HI3.out U1.out ?_; intro w4 hb4 hg4)
    have hx4 : Ext w3 w4 := hxc.grown hg4 (fun r e => by injection e with e; omega)
    have hb4' : Blk w4 w3.heap.size 32 (sc (spUp ps ans 0)).toArray := by rw [SP0.out]; exact hb4
    have HB4 := Lib.hid hb4'
    have HX4 := Lib.hid hx4
    have HBL3 := Lib.hid HBL.out
    have hE3x := Lib.hid hE3
    have X3 := Lib.hid (hx2.trans hx3)
    generalize hgm : w3.heap.size = gm at *
    have HGM := Lib.hid (Nat.le_of_eq hgm)
    clear hb4 hb4' hbc hxc hg4 hx4 hgm hE3 hE2 hx3 hx2
    go_loopw [10] (fun it W => ∃ k : Nat, k ≤ n ∧ it = .int .i64 k ∧ Ext w3 W ∧ Blk W gm 32 (sc (spUp ps ans k)).toArray) (fun it _ => n - (intOf it).toNat)
    case atStart => exact ⟨0, Nat.zero_le _, rfl, HX4.out, HB4.out⟩
    case round =>
      obtain ⟨k, hk, rfl, hy, hB⟩ := hrel
      by_cases hlt : k < n
      · have hkp : k < ps.length := by rw [HP.out]; exact hlt
        have cb := blk_bool (HBL3.out.ext hy) k (HAY.out k hkp)
        have k1 : (0 : Int) ≤ k := by omega
        have k2 : (k : Int) < n := by omega
        have k3 : (k : Int) ≤ 300 := by omega
        rcases hv : aliveAt ps k with _ | _
        · rw [hv] at cb
          have HS := Lib.hid (SPN.out k hkp hv)
          have hkq : k < (spUp ps ans k).length := by rw [SPL.out]; exact hkp
          have hBm : Blk wr gm 32 (sc (spUp ps ans k) ++ []).toArray := by rw [List.append_nil]; exact hB
          have hfit : k * 4 + 4 ≤ (sc (spUp ps ans k) ++ []).length := by rw [List.length_append, sc_length]; simp only [List.length_nil]; omega
          have HBM := Lib.hid hBm
          clear hv hB hBm
          go_wp2_with (refine wpList_store_row rfl 32 (.tmp 62) (.tmp 61) rfl gm (k * 4) 32 (sc (spUp ps ans k) ++ []) #[.int .u16 6, .int .u32 ans, .int .i64 0, .int .i64 0] rfl rfl HBM.out hfit (by kernel_rfl) (by simp [Value.oneCell']) ?_; intro w5 hb5 hg5)
          have hb6 := blk_splice (s' := ⟨6, ans, 0, 0⟩) hkq hb5
          rw [← HS.out, List.append_nil] at hb6
          have B6 := Lib.hid hb6
          have E6 := Lib.hid (hy.grown hg5 (fun r e => by injection e with e; have := HGM.out; omega))
          clear hb5 hb6 hg5 hfit
          go_roundw
          case rel => exact ⟨k + 1, by omega, by go_num, E6.out, B6.out⟩
          case measure => simp [intOf]; omega
        · rw [hv] at cb
          have HS := Lib.hid (SPY.out k hv)
          have HBM := Lib.hid hB
          clear hv hB
          go_wp2_with fail
          go_roundw
          case rel => exact ⟨k + 1, by omega, by go_num, hy, by rw [HS.out]; exact HBM.out⟩
          case measure => simp [intOf]; omega
      · obtain rfl : k = n := by omega
        have HBM := Lib.hid (show InM wr (some ⟨gm, 0, none⟩) (sc (spoilL ps ans)) from by rw [← SPA.out, HP.out]; exact InM.ofBlk hB rfl)
        have hbd := HB1.out.ext (X3.out.trans hy)
        clear hB
        have r0 := (hbd).cell 0
        have r1 := (hbd).cell 1
        have r2 := (hbd).cell 2
        have r3 := (hbd).cell 3
        have r4 := (hbd).cell 4
        have r5 := (hbd).cell 5
        have r6 := (hbd).cell 6
        have r7 := (hbd).cell 7
        have r8 := (hbd).cell 8
        go_wp2_with fail
        refine (HR1.out _ (HM.out.ext (hE3x.out.trans hy))).mono ?_
        rintro e w7 ⟨rfl, hx7⟩
        have hbd7 := hbd.ext hx7
        clear r0 r1 r2 r3 r4 r5 r6 r7 r8
        have r0 := (hbd7).cell 0
        have r1 := (hbd7).cell 1
        have r2 := (hbd7).cell 2
        have r3 := (hbd7).cell 3
        have r4 := (hbd7).cell 4
        have r5 := (hbd7).cell 5
        have r6 := (hbd7).cell 6
        have r7 := (hbd7).cell 7
        have r8 := (hbd7).cell 8
        go_wp2_with fail
        refine (HR2.out _ _ (HBM.out.ext hx7)).mono ?_
        rintro e w8 ⟨rfl, hx8⟩
        clear r0 r1 r2 r3 r4 r5 r6 r7 r8
        go_wp2_with fail
        go_ret
        exact ⟨rfl, hE3x.out.trans (hy.trans (hx7.trans hx8))⟩
end Go.Proofs.Ytjlhfmedaandeaa
