import Derived.Test.YtplpffcolcjboaaChk6
import Derived.Test.YtplpffcolcjboaaChk7
import Derived.Test.YtplpffcolcjboaaAwake6
import Derived.Test.YtplpffcolcjboaaWalkInsn7
/- The law CheckMore, walked. -/
namespace Go.Proofs.Ytplpffcolcjboaa
open Go.RowKit Go.ChangeShapes Go.WideShapes
set_option linter.unusedVariables false
set_option linter.unusedSimpArgs false

theorem pc_take (ps : List Ins) (k : Nat) : pc (ps.take k) = (pc ps).take (4 * k) := by
  by_cases h : k ≤ ps.length
  · have e : pc ps = pc (ps.take k) ++ pc (ps.drop k) := by rw [← pc_append, List.take_append_drop]
    have hl : (pc (ps.take k)).length = 4 * k := by rw [pc_length, List.length_take]; omega
    rw [e, ← hl, List.take_left]
  · rw [List.take_of_length_le (by omega), List.take_of_length_le (by rw [pc_length]; omega)]
theorem take_not (ps : List Ins) (n : Nat) (hn : ps.length = n) (h2 : 2 ≤ n) (h : clsOf (ps.getD (n - 2) zeroI).code ≠ 5) : (atE (ps.take (n - 1))).2 ≠ 0 := fun e => by
  have := (taken_of _ e).last
  rw [List.length_take, show min (n - 1) ps.length - 1 = n - 2 by omega, List.getD_eq_getElem?_getD, List.getElem?_take, if_pos (by omega), ← List.getD_eq_getElem?_getD] at this
  exact h this
set_option maxHeartbeats 4000000 in
set_option maxRecDepth 100000 in
theorem checkMore_walk (A : Option Addr) (n c : Nat) (ps : List Ins) (hp : ps.length = n) (hm : n ≤ c ∧ c ≤ maxLen) (hok : ∀ i ∈ ps, i.ok) {W : World} (hM : InM W A (pc ps))
    (B : Option Addr) (m d : Nat) (qs : List Ins) (hq : qs.length = m) (hm' : m ≤ d ∧ d ≤ maxLen) (hok' : ∀ i ∈ qs, i.ok) (hN : InM W B (pc qs)) (_ : World) :
    Calls Try.prog 7 #[.slice A n c, .slice B m d] W fun e w' => e = .returned (.bool true) ∧ Ext W w' := by
  have HA := Lib.hid (fun W => awake06 W)
  have hx := Ext.refl W
  by_cases big : 300 < n
  · have d1 : (300 : Int) < n := by omega
    clear hp hm hok hM hq hm' hok' hN
    go_enter Try.func7, Try.ntmps7
    go_wp2_with fail
    refine (HA.out _).mono ?_
    rintro e w1 ⟨rfl, hx'⟩
    replace hx := Ext.trans (by first | exact hx | exact hx.alloc _ | exact (hx.alloc _).alloc _ | exact hx.drew) hx'
    clear hx'
    go_wp2
    go_ret
    exact ⟨rfl, hx⟩
  by_cases big2 : 300 < m
  · have d1 : ¬ (300 : Int) < n := by omega
    have d2 : (300 : Int) < m := by omega
    clear hp hm hok hM hq hm' hok' hN
    go_enter Try.func7, Try.ntmps7
    go_wp2_with fail
    refine (HA.out _).mono ?_
    rintro e w1 ⟨rfl, hx'⟩
    replace hx := Ext.trans (by first | exact hx | exact hx.alloc _ | exact (hx.alloc _).alloc _ | exact hx.drew) hx'
    clear hx'
    go_wp2
    go_ret
    exact ⟨rfl, hx⟩
  have d1 : ¬ (300 : Int) < n := by omega
  have d2 : ¬ (300 : Int) < m := by omega
  have C1 := Lib.hid (fun W' h => checkCheck A n c ps W' hp hok (by omega) h)
  have C2 := Lib.hid (fun W' h => checkCheck B m d qs W' hq hok' (by omega) h)
  have HM := Lib.hid hM
  have HN := Lib.hid hN
  by_cases ea : (atE ps).2 ≠ 0
  · have s1 : ((atE ps).2 != 0) = true := by simpa using ea
    clear hp hm hok hM hq hm' hok' hN ea
    generalize (atE ps).2 = x at *
    go_enter Try.func7, Try.ntmps7
    go_wp2_with fail
    refine (HA.out _).mono ?_
    rintro e w1 ⟨rfl, hx'⟩
    replace hx := Ext.trans (by first | exact hx | exact hx.alloc _ | exact (hx.alloc _).alloc _ | exact hx.drew) hx'
    clear hx'
    go_wp2_with fail
    refine (C1.out _ (HM.out.ext hx)).mono ?_
    rintro e w2 ⟨rfl, hx'⟩
    replace hx := hx.trans hx'
    clear hx'
    go_wp2
    go_ret
    exact ⟨rfl, hx⟩
  replace ea : (atE ps).2 = 0 := Classical.byContradiction fun h => ea h
  by_cases eb : (atE qs).2 ≠ 0
  · have s1 : ((atE qs).2 != 0) = true := by simpa using eb
    rw [ea] at C1
    clear hp hm hok hM hq hm' hok' hN ea eb
    generalize (atE qs).2 = x at *
    go_enter Try.func7, Try.ntmps7
    go_wp2_with fail
    refine (HA.out _).mono ?_
    rintro e w1 ⟨rfl, hx'⟩
    replace hx := Ext.trans (by first | exact hx | exact hx.alloc _ | exact (hx.alloc _).alloc _ | exact hx.drew) hx'
    clear hx'
    go_wp2_with fail
    refine (C1.out _ (HM.out.ext hx)).mono ?_
    rintro e w2 ⟨rfl, hx'⟩
    replace hx := hx.trans hx'
    clear hx'
    go_wp2_with fail
    refine (C2.out _ (HN.out.ext hx)).mono ?_
    rintro e w3 ⟨rfl, hx'⟩
    replace hx := hx.trans hx'
    clear hx'
    go_wp2
    go_ret
    exact ⟨rfl, hx⟩
  replace eb : (atE qs).2 = 0 := Classical.byContradiction fun h => eb h
  have ta := taken_of ps ea
  have tb := taken_of qs eb
  have okab : ∀ i ∈ ps ++ qs, i.ok := fun i hi => by
    rcases List.mem_append.1 hi with g | g
    · exact hok i g
    · exact hok' i g
  have n0 : 1 ≤ n := by rw [← hp]; exact ta.l1
  have hab := taken_at _ (both_taken hok hok' ta tb (by omega))
  have C3 := Lib.hid (fun X x W' h => checkCheck X (n + m) x (ps ++ qs) W' (by rw [List.length_append]; omega) okab (by omega) h)
  rw [hab] at C3
  rw [ea] at C1
  rw [eb] at C2
  dsimp only at C3
  have hlast := ta.last
  rw [hp] at hlast
  have hg1 : ps.getD (n - 1) zeroI = ps[n - 1]'(by omega) := by rw [List.getD_eq_getElem?_getD, List.getElem?_eq_getElem (by omega)]; rfl
  rw [hg1] at hlast
  have O1 := Lib.hid (fun W' => of_any (ps[n - 1]'(by omega)).code W')
  rw [show (byE (ps[n - 1]'(by omega)).code).1.cls = clsOf (ps[n - 1]'(by omega)).code from rfl, hlast] at O1
  have Q1 := Lib.hid (fun (b o : Nat) W' (h : InM W' (some ⟨b, o, none⟩) (pc ps)) => (prog_cells h (show n - 1 < ps.length by omega)).1)
  generalize (ps[n - 1]'(by omega)).code = co at *
  obtain ⟨i0, hi, hz0, hz1, hz2⟩ := info_parts info_ins
  have hmk : ∀ w : World, (Instr.makeSlice 30 (.int .i64 0) (.int .i64 ((n : Int) + m))).run Try.prog w = .ok (.slice (some ⟨w.heap.size, 0, none⟩) 0 (n + m)) (w.alloc (.cells (madeCells #[.int .u16 0, .int .u8 0, .int .u8 0, .int .u32 0] ((n + m) * 4)) 25)) := fun w => by
    have := make_run 30 25 i0 _ Try.underlying30 hi hz0 .i64 .i64 0 (n + m) (by omega) (by omega) (by omega) w
    rw [hz1] at this
    exact this
  have HI := Lib.hid hi; have HZ0 := Lib.hid hz0; have HZ1 := Lib.hid hz1; have HZ2 := Lib.hid hz2
  have L1 := Lib.hid (show (pc ps).length = n * 4 by rw [pc_length]; omega)
  have L2 := Lib.hid (show (pc qs).length = m * 4 by rw [pc_length]; omega)
  have U1 := Lib.hid (pc_one ps)
  have U2 := Lib.hid (pc_one qs)
  have HPC := Lib.hid (pc_append ps qs)
  have hw1 : IntKind.i64.wrap ((n : Int) - 1) = ((n - 1 : Nat) : Int) := by rw [show (n : Int) - 1 = ((n - 1 : Nat) : Int) by omega]; exact IntWalk.i64_in _ (by omega)
  have k1 : (0 : Int) ≤ ((n - 1 : Nat) : Int) := by omega
  have k2 : ((n - 1 : Nat) : Int) < n := by omega
  have k3 : ((n - 1 : Nat) : Int) ≤ n := by omega
  have k4 : (n - 1 : Nat) ≤ n := by omega
  obtain ⟨b0, o0, rfl, _⟩ := prog_some hM (by omega)
  have nz : ((n : Int) == 0) = false := by simp; omega
  have hc' : n - 1 ≤ c := by omega
  have C4 := Lib.hid (fun W' (h : InM W' (some ⟨b0, o0, none⟩) (pc ps)) => checkCheck (some ⟨b0, o0, none⟩) (n - 1) c (ps.take (n - 1)) W' (by rw [List.length_take]; omega) (fun i hi => hok i (List.mem_of_mem_take hi)) (by omega) (by rw [pc_take]; exact h.take _))
  have TN := Lib.hid (take_not ps n hp)
  have hq2 : ∀ (h2 : 2 ≤ n) W' (h : InM W' (some ⟨b0, o0, none⟩) (pc ps)), W'.cell? ⟨b0, o0 + (n - 2) * 4, none⟩ = some (.int .u16 (ps.getD (n - 2) zeroI).code) := fun h2 W' h => by
    rw [List.getD_eq_getElem?_getD, List.getElem?_eq_getElem (show n - 2 < ps.length by omega)]
    exact (prog_cells h (show n - 2 < ps.length by omega)).1
  have Q2 := Lib.hid hq2
  have O2 := Lib.hid (fun W' => of_any (ps.getD (n - 2) zeroI).code W')
  rw [show (byE (ps.getD (n - 2) zeroI).code).1.cls = clsOf (ps.getD (n - 2) zeroI).code from rfl] at O2
  have hcc : c ≤ 9223372036854775807 := by have := hm.2; unfold maxLen at this; omega
  clear hi hz0 hz1 hz2 hm hok hM hq hm' hok' hN ea eb ta tb okab hab hlast hg1 hq2 big big2
  generalize ps.getD (n - 2) zeroI = P2 at *
  go_enter Try.func7, Try.ntmps7
  go_wp2_with fail
  refine (HA.out _).mono ?_
  rintro e w1 ⟨rfl, hx'⟩
  replace hx := Ext.trans (by first | exact hx | exact hx.alloc _ | exact (hx.alloc _).alloc _ | exact hx.drew) hx'
  clear hx'
  go_wp2_with fail
  refine (C1.out _ (HM.out.ext hx)).mono ?_
  rintro e w2 ⟨rfl, hx'⟩
  replace hx := hx.trans hx'
  clear hx'
  go_wp2_with fail
  refine (C2.out _ (HN.out.ext hx)).mono ?_
  rintro e w3 ⟨rfl, hx'⟩
  replace hx := hx.trans hx'
  clear hx'
  have ho0 := own_made (w := w3) (t := 25) (z := #[.int .u16 0, .int .u8 0, .int .u8 0, .int .u32 0]) (size := 4) (c := n + m) hx.size (by omega)
  have hx2 := hx.alloc (.cells (madeCells #[.int .u16 0, .int .u8 0, .int .u8 0, .int .u32 0] ((n + m) * 4)) 25)
  go_wp2_with (first
    | (refine wpList_app rfl (.tmp 32) (.tmp 33) 30 rfl W.heap.size 25 i0 _ 4 8 Try.underlying30 HI.out HZ0.out HZ1.out HZ2.out rfl (by decide) _ 0 (n + m) [] rfl ho0 _ n c (pc ps) rfl L1.out (HM.out.ext hx2) U1.out (by omega) (by decide) hx2.size ?_; intro A1 c1 w4 ho1 hg1 hzz; clear hzz; rw [Nat.zero_add, List.nil_append] at ho1; have hx3 := hx2.app ho0 (Nat.le_refl _) hg1)
    | (refine wpList_app rfl (.tmp 35) (.tmp 36) 30 rfl W.heap.size 25 i0 _ 4 8 Try.underlying30 HI.out HZ0.out HZ1.out HZ2.out rfl (by decide) A1 n c1 _ rfl ho1 B m d (pc qs) rfl L2.out (HN.out.ext hx3) U2.out (by omega) (by decide) hx3.size ?_; intro A2 c2 w5 ho2 hg2 hzz; clear hzz; have hx4 := hx3.app ho1 (Nat.le_refl _) hg2))
  rw [← HPC.out] at ho2
  clear ho0 ho1 hg1 hg2 hx hx2 hx3
  refine (C3.out _ _ _ (own_inM ho2)).mono ?_
  rintro e w6 ⟨rfl, hx'⟩
  have hx := hx4.trans hx'
  clear hx' hx4 ho2
  have q0 := Q1.out _ _ _ (HM.out.ext hx)
  obtain ⟨n1, hn1⟩ : ∃ n1, n1 = n - 1 := ⟨_, rfl⟩
  rw [← hn1] at q0 hw1 k1 k2 k3 k4
  by_cases h2 : 2 ≤ n
  · have d3 : (1 : Int) < n := by omega
    have q2 := Q2.out h2 _ (HM.out.ext hx)
    obtain ⟨n2, hn2⟩ : ∃ n2, n2 = n - 2 := ⟨_, rfl⟩
    have hw2 : IntKind.i64.wrap ((n : Int) - 2) = (n2 : Int) := by rw [show (n : Int) - 2 = (n2 : Int) by omega]; exact IntWalk.i64_in _ (by omega)
    have k5 : (0 : Int) ≤ (n2 : Int) := by omega
    have k6 : (n2 : Int) < n := by omega
    rw [← hn2] at q2
    have HT := Lib.hid (TN.out h2)
    generalize (atE (ps.take (n - 1))).2 = z at *
    rw [← hn1] at C4
    clear hn1 hn2 TN Q2 Q1
    go_wp2_with fail
    refine (O1.out _).mono ?_
    rintro e w7 ⟨rfl, hx'⟩
    have q2' := hx'.cell q2
    replace hx := hx.trans hx'
    clear hx' q2 q0
    go_wp2_with fail
    refine (O2.out _).mono ?_
    rintro e w8 ⟨rfl, hx'⟩
    replace hx := hx.trans hx'
    clear hx' q2'
    by_cases h5 : clsOf P2.code = 5
    · rw [h5]
      go_wp2
      go_ret
      exact ⟨rfl, hx⟩
    · have h5' : (clsOf P2.code != 5) = true := by simpa using h5
      have hz : (z != 0) = true := by simpa using HT.out h5
      clear HT h5
      generalize clsOf P2.code = q at *
      go_wp2_with fail
      refine (C4.out _ (HM.out.ext hx)).mono ?_
      rintro e w9 ⟨rfl, hx'⟩
      replace hx := hx.trans hx'
      go_wp2
      go_ret
      exact ⟨rfl, hx⟩
  · have d3 : ¬ (1 : Int) < n := by omega
    clear hn1 TN Q2 C4 Q1
    go_wp2_with fail
    refine (O1.out _).mono ?_
    rintro e w7 ⟨rfl, hx'⟩
    replace hx := hx.trans hx'
    go_wp2
    go_ret
    exact ⟨rfl, hx⟩
end Go.Proofs.Ytplpffcolcjboaa
