import Derived.Test.YtplpffcolcjboaaCells7
/- The document's Reached. -/
namespace Go.Proofs.Ytplpffcolcjboaa
open Go.RowKit Go.ChangeShapes Go.WideShapes
set_option linter.unusedVariables false
set_option linter.unusedSimpArgs false

theorem wayRaw_pos (i : Ins) (hi : i.ok) (a : Int) (ha : 0 ≤ a) : ∀ x ∈ wayRaw i a, a < x := by
  have j0 := hi.2.1.1
  have f0 := hi.2.2.1.1
  have k0 := hi.2.2.2.1
  intro x hx
  unfold wayRaw at hx
  split at hx
  · cases hx
  split at hx
  · split at hx
    · simp at hx; omega
    · split at hx
      · simp at hx; omega
      · simp at hx; omega
  · simp at hx; omega
theorem takeWhile_mem {p : Int → Bool} : ∀ (L : List Int) (x : Int), x ∈ L.takeWhile p → x ∈ L ∧ p x = true
  | [], _, h => by simp at h
  | y :: L, x, h => by
    simp only [List.takeWhile_cons] at h
    split at h
    · rename_i hy
      rcases List.mem_cons.1 h with rfl | h
      · exact ⟨by simp, hy⟩
      · have := takeWhile_mem L x h
        exact ⟨by simp [this.1], this.2⟩
    · cases h
theorem nextL_bd (ps : List Ins) (hok : ∀ i ∈ ps, i.ok) (a : Int) : ∀ x ∈ nextL ps a, a < x ∧ 0 ≤ x ∧ x < ps.length := fun x hx => by
  unfold nextL at hx
  split at hx
  · cases hx
  · rename_i h
    have hk : a.toNat < ps.length := by omega
    rw [List.getD_eq_getElem?_getD, List.getElem?_eq_getElem hk] at hx
    obtain ⟨h1, h2⟩ := takeWhile_mem _ _ hx
    have := wayRaw_pos _ (hok _ (List.getElem_mem hk)) a (by omega) x h1
    simp at h2
    omega
theorem nextL_len (ps : List Ins) (a : Int) : (nextL ps a).length ≤ 2 := by
  unfold nextL
  split
  · simp
  · refine Nat.le_trans (List.takeWhile_prefix _).length_le ?_
    unfold wayRaw
    split
    · simp
    split
    · split
      · simp
      · split
        · simp
        · simp
    · simp
def setAll (l : List Bool) (ns : List Int) : List Bool := ns.foldl (fun l n => l.set n.toNat true) l
theorem setAll_length : ∀ (ns : List Int) (l : List Bool), (setAll l ns).length = l.length
  | [], _ => rfl
  | n :: ns, l => by
    have := setAll_length ns (l.set n.toNat true)
    simp only [setAll, List.foldl_cons] at this ⊢
    rw [this, List.length_set]
theorem setAll_take (l : List Bool) (ns : List Int) (k : Nat) (hk : k < ns.length) : setAll l (ns.take (k + 1)) = (setAll l (ns.take k)).set ns[k].toNat true := by
  unfold setAll
  rw [List.take_succ_eq_append_getElem hk, List.foldl_append]
  rfl
def rstep (ps : List Ins) (l : List Bool) (i : Nat) : List Bool := if l.getD i false then setAll l (nextL ps i) else l
def rstart (n : Nat) : List Bool := (List.replicate n false).set 0 true
def rupto (ps : List Ins) (k : Nat) : List Bool := (List.range k).foldl (rstep ps) (rstart ps.length)
/-- Which places are reached. -/
def reachL (ps : List Ins) : List Bool := if 4096 < ps.length then [] else rupto ps ps.length
theorem rupto_succ (ps : List Ins) (k : Nat) : rupto ps (k + 1) = rstep ps (rupto ps k) k := by simp [rupto, List.range_succ, List.foldl_append]
theorem rstep_length (ps : List Ins) (l : List Bool) (i : Nat) : (rstep ps l i).length = l.length := by
  unfold rstep
  split
  · exact setAll_length _ _
  · rfl
theorem rupto_length (ps : List Ins) : ∀ k, (rupto ps k).length = ps.length
  | 0 => by simp [rupto, rstart]
  | k + 1 => by rw [rupto_succ, rstep_length, rupto_length ps k]
def bools (l : List Bool) : Array Value := (l.map Value.bool).toArray
theorem bools_at (l : List Bool) (k : Nat) (hk : k < l.length) : (bools l)[k]? = some (.bool l[k]) := by simp [bools, hk]
theorem bools_set (l : List Bool) (k : Nat) (b : Bool) : (bools l).setIfInBounds k (.bool b) = bools (l.set k b) := by simp [bools, List.map_set]
theorem info_bool : (Try.prog.info? 4).map (fun i => (i.zero, i.size, i.bytes)) = some (some (.bool false), 1, 1) := by kernel_rfl
theorem bools_rep (n : Nat) : madeCells #[Value.bool false] n = bools (List.replicate n false) := by
  apply Array.toList_inj.1
  rw [toList_madeCells_one]
  simp [bools]

set_option maxHeartbeats 2000000 in
set_option maxRecDepth 100000 in
theorem refReached (A : Option Addr) (n c : Nat) (ps : List Ins) (w : World) (hp : ps.length = n) (hb : n ≤ 100000) (hok : ∀ i ∈ ps, i.ok) (hM : InM w A (pc ps)) :
    Calls Try.prog 25 #[.slice A n c] w fun e w' => ∃ P, e = .returned (.slice P (reachL ps).length (reachL ps).length) ∧ InM w' P ((reachL ps).map Value.bool) ∧ Ext w w' := by
  by_cases big : 4096 < n
  · have hr : reachL ps = [] := by unfold reachL; rw [if_pos (by omega)]
    rw [hr]
    have d1 : (4096 : Int) < n := by omega
    clear hr hp hb hok hM big
    go_enter Try.func25, Try.ntmps25
    go_wp2
    go_ret
    exact ⟨none, rfl, InM.nil _ _, Ext.refl _⟩
  · have hr : reachL ps = rupto ps n := by unfold reachL; rw [if_neg (by omega), hp]
    rw [hr]
    have hrl : ∀ k, (rupto ps k).length = n := fun k => by rw [rupto_length, hp]
    rw [hrl]
    have hmk : ∀ w : World, (Instr.makeSlice 32 (.int .i64 (n : Int)) (.int .i64 (n : Int))).run Try.prog w = .ok (.slice (some ⟨w.heap.size, 0, none⟩) n n) (w.alloc (.cells (bools (List.replicate n false)) 4)) := fun w => by
      rw [← bools_rep]
      exact make_run1 32 4 (.bool false) 1 Try.underlying32 info_bool rfl .i64 .i64 n n (Nat.le_refl _) (by omega) (by decide) w
    have HNX := Lib.hid (fun (a : Int) (W : World) (h : InM W A (pc ps)) => refNextI A n c ps a W hp hb hok h)
    have HBD := Lib.hid (fun a : Int => nextL_bd ps hok a)
    have HRL := Lib.hid hrl
    have HRS := Lib.hid (rupto_succ ps)
    have HP := Lib.hid hp
    have HM := Lib.hid hM
    have d1 : ¬ (4096 : Int) < n := by omega
    have hx0 := (Ext.refl w).alloc (.cells (bools (List.replicate n false)) 4)
    have B0 := Blk.new w 4 (bools (List.replicate n false))
    have hr0 : rupto ps 0 = (List.replicate n false).set 0 true := by simp [rupto, rstart, hp]
    have HR0 := Lib.hid hr0
    clear hr hrl hok hM hr0 hp
    rcases Nat.eq_zero_or_pos n with h0 | h0
    · subst h0
      clear HNX HBD HRS B0 HRL
      have hmk0 : ∀ w : World, (Instr.makeSlice 32 (.int .i64 0) (.int .i64 0)).run Try.prog w = .ok (.slice (some ⟨w.heap.size, 0, none⟩) 0 0) (w.alloc (.cells (bools (List.replicate 0 false)) 4)) := hmk
      clear hmk
      go_enter Try.func25, Try.ntmps25
      go_wp2_with fail
      go_loopw [4] (fun i wr => i = .int .i64 0 ∧ Ext w wr) (fun i _ => 0)
      case atStart => exact ⟨rfl, hx0⟩
      case round =>
        clear hx0
        obtain ⟨rfl, hx⟩ := hrel
        go_wp2_with fail
        go_ret
        refine ⟨_, rfl, ?_, hx⟩
        rw [HR0.out]
        exact InM.nil _ _
    · have c0 : (w.alloc (.cells (bools (List.replicate n false)) 4)).cell? ⟨w.heap.size, 0, none⟩ = some (.bool false) := by
        rw [B0.cell, bools_at _ 0 (by simpa using h0)]
        simp
      have f0 := B0.frozen 0
      have hn0 : (0 : Int) < n := by omega
      go_enter Try.func25, Try.ntmps25
      go_wp2_with fail
      go_loopw [4] (fun i wr => ∃ k : Nat, k ≤ n ∧ i = .int .i64 k ∧ Ext w wr ∧ Blk wr w.heap.size 4 (bools (rupto ps k))) (fun i _ => n - (intOf i).toNat)
      case atStart =>
        refine ⟨0, by omega, rfl, (Ext.refl w).alloc _, ?_⟩
        rw [HR0.out, ← bools_set]
        exact Blk.new _ _ _
      case round =>
        obtain ⟨w0, rfl⟩ : ∃ w0 : World, w0 = wr := ⟨_, rfl⟩
        clear hx0 B0 c0 f0 HR0
        obtain ⟨k, hk, rfl, hx, hB⟩ := hrel
        by_cases hlt : k < n
        · have hkl : k < (rupto ps k).length := by rw [HRL.out]; exact hlt
          have ck := (hB.cell k).trans (bools_at _ k hkl)
          have k1 : (0 : Int) ≤ k := by omega
          have k2 : (k : Int) < n := by omega
          have hgd : (rupto ps k).getD k false = (rupto ps k)[k] := by rw [List.getD_eq_getElem?_getD, List.getElem?_eq_getElem hkl]; rfl
          have hs := HRS.out k
          unfold rstep at hs
          rw [hgd] at hs
          cases hv : (rupto ps k)[k] with
          | false =>
            rw [hv] at hs ck
            have HS := Lib.hid hs
            clear hs hgd hv
            go_wp2_with fail
            go_roundw
            case rel => exact ⟨k + 1, by omega, by go_num, hx, by rw [HS.out]; exact hB⟩
            case measure => simp [intOf]; omega
          | true =>
            rw [hv] at hs ck
            have HS := Lib.hid hs
            have HN := Lib.hid (HBD.out (k : Int))
            have HC := Lib.hid (HNX.out (k : Int) w0 (HM.out.ext hx))
            have hl0 := HRL.out k
            have hnl := nextL_len ps (k : Int)
            clear hs hgd hv hkl
            generalize nextL ps (k : Int) = ns at *
            generalize rupto ps k = l at *
            go_wp2_with fail
            refine (HC.out).mono ?_
            rintro e w1 ⟨P, cP, rfl, ho, hx1⟩
            have hB1 := hB.ext hx1
            have HL0 := Lib.hid hl0
            clear ck hB hl0 HC
            go_wp2_with fail
            go_loopw [6] (fun i wr => ∃ j : Nat, j ≤ ns.length ∧ i = .int .i64 j ∧ Ext w wr ∧ Blk wr w.heap.size 4 (bools (setAll l (ns.take j))) ∧ wr.ownsRow w0.heap.size 3 1 (.slice P ns.length cP) ns.length (nums .i64 ns)) (fun i _ => ns.length - (intOf i).toNat)
            case atStart => exact ⟨0, by omega, rfl, hx.trans hx1, hB1, ho⟩
            case round =>
              clear hx hx1 hB1 ho
              obtain ⟨j, hj, rfl, hx, hB, ho⟩ := hrel
              by_cases hjl : j < ns.length
              · obtain ⟨gp, cap, hP, _⟩ := ho.form (by omega)
                simp only [Value.slice.injEq] at hP
                obtain ⟨rfl, -, rfl⟩ := hP
                have hc := (own_inM ho).cell (nums_at hjl)
                obtain ⟨e1, e2, e3⟩ := HN.out ns[j] (List.getElem_mem hjl)
                have HT := Lib.hid (setAll_take l ns j hjl)
                have hsl : (setAll l (ns.take j)).length = n := by rw [setAll_length, HL0.out]
                obtain ⟨z, hz⟩ : ∃ z : Nat, ns[j] = (z : Int) := ⟨ns[j].toNat, by omega⟩
                rw [hz] at hc e1 e2 e3 HT
                rw [Int.toNat_natCast] at HT
                have hzl : z < (setAll l (ns.take j)).length := by rw [hsl]; have := HP.out; omega
                obtain ⟨bz, cz⟩ : ∃ b, wr.cell? ⟨w.heap.size, z, none⟩ = some (.bool b) := ⟨_, (hB.cell z).trans (bools_at _ z hzl)⟩
                have fz := hB.frozen z
                have z2 : (z : Int) < n := by have := HP.out; omega
                have HB2 := Lib.hid (hB.set_ z (.bool true))
                have HX2 := Lib.hid (Ext.set hx (p := ⟨w.heap.size, z, none⟩) (Nat.le_refl _) (.bool true))
                have HO2 := Lib.hid (own_apart_blk ho hB (by decide) (grown_set _ w.heap.size z (.bool true)))
                have j1 : (0 : Int) ≤ j := by omega
                have j2 : (j : Int) < ns.length := by omega
                simp only [Nat.zero_add] at hc
                clear hz hB hx ho hsl hzl
                go_wp2_with fail
                go_roundw
                case rel => exact ⟨j + 1, by omega, by go_num, HX2.out, by rw [HT.out, ← bools_set]; exact HB2.out, HO2.out⟩
                case measure => simp [intOf]; omega
              · obtain rfl : j = ns.length := by omega
                rw [List.take_length] at hB
                go_wp2_with fail
                go_roundw
                case rel => exact ⟨k + 1, by omega, by go_num, hx, by rw [HS.out]; exact hB⟩
                case measure => simp [intOf]; omega
        · obtain rfl : k = n := by omega
          go_wp2_with fail
          go_ret
          exact ⟨_, rfl, InM.ofBlk hB (by simp [bools]), hx⟩
end Go.Proofs.Ytplpffcolcjboaa
