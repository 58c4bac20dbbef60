import Derived.Test.YtplpffcolcjboaaChk6
import Derived.Test.YtplpffcolcjboaaChk7
import Derived.Test.YtplpffcolcjboaaAwake6
import Derived.Test.YtplpffcolcjboaaWalkInsn4
import Derived.Laws.CopyRow
/- The law CheckSpoilt, walked. -/
namespace Go.Proofs.Ytplpffcolcjboaa
open Go.RowKit Go.ChangeShapes Go.WideShapes
set_option linter.unusedVariables false
set_option linter.unusedSimpArgs false

/-- copy onto the whole of a block, elements of any number of cells. -/
theorem wpList_copy_all {P : Program} {w : World} {ops : Array Oper} {rest : List Oper} {o : Oper} {a : Act} {Q : Exit → Act → World → Prop} (hgd : o.guard = none) (d s : Operand) (dT sT : TypeId)
    (ho : o.op = .call { callee := .builtin .copy, args := #[d, s], argTypes := #[dT, sT] }) (elem : TypeId) (hu : P.underlying dT = some (.slice elem)) (size : Nat) (hsz : (P.info? elem).map (·.size) = some size) (hpos : 0 < size)
    (g n c : Nat) (A : Option Addr) (hd : a.eval d = .slice (some ⟨g, 0, none⟩) n n) (hs : a.eval s = .slice A n c) (cur : Array Value) (t : TypeId) (hg : Blk w g t cur) (cs : List Value) (hl : cs.length = n * size) (hcur : cur.size = n * size)
    (hM : InM w A cs) (h1 : ∀ v ∈ cs, v.oneCell' = true) (h : ∀ w', Blk w' g t cs.toArray → w.grownBy w' (some g) → wpList P ops Q rest (a.put o.dst (goInt n)) w') : wpList P ops Q (o :: rest) a w := by
  have key : ∃ w', (Builtin.copy_ #[dT, sT] o.type #[.slice (some ⟨g, 0, none⟩) n n, .slice A n c]).run P w = .ok (goInt n) w' ∧ Blk w' g t cs.toArray ∧ w.grownBy w' (some g) := by
    cases hq : P.info? elem with
    | none => simp [hq] at hsz
    | some i =>
      have hi : i.size = size := by simpa [hq] using hsz
      rcases A with _ | ad
      · have hn : cs = [] := by
          rcases cs with _ | ⟨u, r⟩
          · rfl
          · obtain ⟨b, off, hB, _⟩ := hM 0 u rfl
            cases hB
        subst hn
        have hn0 : n = 0 := by
          rcases Nat.eq_zero_or_pos n with h0 | h0
          · exact h0
          · have := Nat.mul_pos h0 hpos
            simp only [List.length_nil] at hl
            omega
        subst hn0
        refine ⟨w, ?_, ?_, World.grownBy.refl w _⟩
        · simp [Builtin.copy_, run_underlying hu, Builtin.lenOf, Builtin.firstCells, sizeOf, typeInfo, hq, storeCells]
        · have : cur = #[] := Array.eq_empty_of_size_eq_zero (by simpa using hcur)
          rw [this] at hg
          exact hg
      · have hst := run_storeCells_at P g 0 t cs 0 cur w hg (by simp; omega) h1
        have hld := run_firstCells_some (P := P) (w := w) size n ad n c cs hl (fun j v hv => hM.add hv)
        refine ⟨w.setRow g cs.toArray, ?_, setRow_heap w g cur _ t (0, 0) hg, grown_setRow w g _⟩
        have e : (List.drop cs.length cur.toList) = [] := List.drop_eq_nil_of_le (by simp; omega)
        simp only [Nat.add_zero, Nat.zero_add, List.take_zero, List.nil_append, e, List.append_nil] at hst
        simp [Builtin.copy_, run_underlying hu, Builtin.lenOf, sizeOf, typeInfo, hq, hi, hld, hst]
  obtain ⟨w', hr, hb, hgr⟩ := key
  refine wpList_plain hgd fun K hK => ?_
  unfold Oper.wp execOp
  simp only [ho, resolve, invoke, builtin, Sem.run_bind, Sem.run_pure, Result.andThen_ok, List.map_toArray, List.map_cons, List.map_nil, hd, hs, hr]
  exact hK _ _ (h w' hb hgr)
theorem splice_pc (i : Ins) : ∀ (ps : List Ins) (k : Nat), k < ps.length → splice (pc ps) (k * 4) i.cells.toList = pc (ps.set k i)
  | [], _, h => by simp at h
  | p :: ps, 0, _ => by
    unfold splice
    rw [pc_cons, List.set_cons_zero, pc_cons]
    simp [Ins.cells]
  | p :: ps, k + 1, h => by
    have ih := splice_pc i ps k (by simpa using h)
    rw [List.set_cons_succ, pc_cons, pc_cons, ← ih]
    unfold splice
    have e : (k + 1) * 4 = p.cells.toList.length + k * 4 := by simp [Ins.cells]; omega
    rw [e, take_more, List.append_assoc]
    congr 2
    rw [Nat.add_assoc, drop_more]
where
  take_more {α : Type} {l m : List α} {n : Nat} : (l ++ m).take (l.length + n) = l ++ m.take n := by rw [List.take_length_add_append]
  drop_more {α : Type} {l m : List α} {n : Nat} : (l ++ m).drop (l.length + n) = m.drop n := by rw [List.drop_length_add_append]
theorem size_ins : (Try.prog.info? 25).map (·.size) = some 4 := by kernel_rfl
/-- What is told of a program that was spoilt. -/
theorem spoilt (ps : List Ins) (i : Ins) (k : Nat) (hk : k < ps.length) (hn : ps.length ≤ 4096) (he : oneE i ((ps.length : Int) - 1 - k) ≠ 0) :
    ∃ j : Nat, j ≤ k ∧ (atE (ps.set k i)).1 = j ∧ (atE (ps.set k i)).2 ≠ 0 ∧ (j < k ∨ (atE (ps.set k i)).2 = oneE i ((ps.length : Int) - 1 - k)) := by
  have hl : (ps.set k i).length = ps.length := List.length_set
  have hek : errAt (ps.set k i) k = oneE i ((ps.length : Int) - 1 - k) := by
    unfold errAt
    rw [hl, getD_set, if_pos ⟨rfl, hk⟩]
  obtain ⟨j, h1, h2, h3⟩ := atE_first (ps.set k i) (by omega) k (by omega) (by rw [hek]; exact he)
  refine ⟨j, h1, by rw [h2], by rw [h2]; exact h3, ?_⟩
  rcases Nat.lt_or_eq_of_le h1 with h | h
  · exact .inl h
  · right; rw [h2, h]; exact hek

set_option maxHeartbeats 4000000 in
set_option maxRecDepth 100000 in
theorem checkSpoilt_walk (A : Option Addr) (n c : Nat) (ps : List Ins) (hp : ps.length = n) (hm : n ≤ c ∧ c ≤ maxLen) (hok : ∀ i ∈ ps, i.ok) {W : World} (hM : InM W A (pc ps)) (a : Int) (ha : (Lit.int .i64 a).wf = true) (I : Ins) (hI : I.ok) (_ : World) :
    Calls Try.prog 8 #[.slice A n c, .int .i64 a, I.val] W fun e w' => e = .returned (.bool true) ∧ Ext W w' := by
  have HA := Lib.hid (fun W => awake06 W)
  have hx0 := (Ext.refl W).alloc (.cells #[.int .u16 I.code, .int .u8 I.jt, .int .u8 I.jf, .int .u32 I.k] 25)
  have B0 := Blk.new W 25 #[.int .u16 I.code, .int .u8 I.jt, .int .u8 I.jf, .int .u32 I.k]
  by_cases big : 300 < n
  · have d1 : (300 : Int) < n := by omega
    clear hp hm hok hM B0 hI ha
    unfold Ins.val Ins.cells
    go_enter Try.func8, Try.ntmps8
    go_wp2_with fail
    refine (HA.out _).mono ?_
    rintro e w1 ⟨rfl, hx'⟩
    go_wp2
    go_ret
    exact ⟨rfl, hx0.trans hx'⟩
  have d1 : ¬ (300 : Int) < n := by omega
  by_cases h1 : a < 0
  · clear hp hm hok hM B0 hI ha
    unfold Ins.val Ins.cells
    go_enter Try.func8, Try.ntmps8
    go_wp2_with fail
    refine (HA.out _).mono ?_
    rintro e w1 ⟨rfl, hx'⟩
    go_wp2
    go_ret
    exact ⟨rfl, hx0.trans hx'⟩
  by_cases h2 : (n : Int) ≤ a
  · clear hp hm hok hM B0 hI ha
    unfold Ins.val Ins.cells
    go_enter Try.func8, Try.ntmps8
    go_wp2_with fail
    refine (HA.out _).mono ?_
    rintro e w1 ⟨rfl, hx'⟩
    go_wp2
    go_ret
    exact ⟨rfl, hx0.trans hx'⟩
  obtain ⟨k, rfl⟩ : ∃ k : Nat, a = (k : Int) := ⟨a.toNat, by omega⟩
  have hk : k < n := by omega
  have k1 : (0 : Int) ≤ k := by omega
  have k2 : (k : Int) < n := by omega
  have k3 : ¬ (n : Int) ≤ k := by omega
  obtain ⟨i0, hi, hz0, hz1, hz2⟩ := info_parts info_ins
  have hrep : (madeCells #[Value.int .u16 0, .int .u8 0, .int .u8 0, .int .u32 0] (n * 4)) = (pc (List.replicate n zeroI)).toArray := by
    apply Array.toList_inj.1
    rw [rep4]
  have hmk : ∀ w : World, (Instr.makeSlice 30 (.int .i64 (n : Int)) (.int .i64 (n : Int))).run Try.prog w = .ok (.slice (some ⟨w.heap.size, 0, none⟩) n n) (w.alloc (.cells (pc (List.replicate n zeroI)).toArray 25)) := fun w => by
    have := make_run 30 25 i0 _ Try.underlying30 hi hz0 .i64 .i64 n n (Nat.le_refl _) (by omega) (by omega) w
    rw [hz1] at this
    rw [← hrep]
    exact this
  have okq : ∀ i ∈ ps.set k I, i.ok := fun i hi => by
    rcases List.mem_or_eq_of_mem_set hi with h | rfl
    · exact hok i h
    · exact hI
  have C1 := Lib.hid (fun W' => checkOne I hI ((n : Int) - 1 - k) W')
  have C2 := Lib.hid (fun X x W' h => checkAt X n x (ps.set k I) W' (by rw [List.length_set]; exact hp) okq (by omega) h)
  have SP := Lib.hid (fun he => spoilt ps I k (by omega) (by omega) he)
  rw [hp] at SP
  have L1 := Lib.hid (show (pc ps).length = n * 4 by rw [pc_length]; omega)
  have L2 := Lib.hid (show (pc (List.replicate n zeroI)).toArray.size = n * 4 by simp [pc_length]; omega)
  have U1 := Lib.hid (pc_one ps)
  have PS := Lib.hid (splice_pc I ps k (by omega))
  have HM := Lib.hid hM
  have hw1 : IntKind.i64.wrap ((n : Int) - 1) = (n : Int) - 1 := IntWalk.i64_in _ (by omega)
  have hw2 : IntKind.i64.wrap ((n : Int) - 1 - k) = (n : Int) - 1 - k := IntWalk.i64_in _ (by omega)
  generalize atE (ps.set k I) = res at *
  generalize oneE I ((n : Int) - 1 - k) = ev at *
  obtain ⟨rx, ry⟩ := res
  dsimp only at SP C2
  clear hi hz0 hz1 hz2 hrep hp hm hok hM okq big h1 h2 ha hI
  obtain ⟨ic, ij, ik, il⟩ := I
  simp only [Ins.val, Ins.cells] at *
  go_enter Try.func8, Try.ntmps8
  go_wp2_with fail
  generalize W.alloc (.cells #[.int .u16 ic, .int .u8 ij, .int .u8 ik, .int .u32 il] 25) = W0 at *
  have HB0 := Lib.hid B0
  clear B0
  generalize W.heap.size = g0 at *
  refine (HA.out _).mono ?_
  rintro e w1 ⟨rfl, hx'⟩
  have hx1 := hx0.trans hx'
  have hG := Blk.new w1 25 (pc (List.replicate n zeroI)).toArray
  have hx2 := hx1.alloc (.cells (pc (List.replicate n zeroI)).toArray 25)
  have hB2 := (HB0.out.ext hx').alloc (.cells (pc (List.replicate n zeroI)).toArray 25)
  have hgw : g0 < w1.heap.size := (HB0.out.ext hx').lt
  have hW0 : W.heap.size ≤ w1.heap.size := hx1.size
  clear hx0 hx'
  go_wp2_with (first
    | (refine wpList_copy_all rfl (.tmp 29) (.tmp 30) 30 30 rfl 25 Try.underlying30 4 size_ins (by decide) w1.heap.size n c A rfl rfl _ _ hG (pc ps) L1.out L2.out (HM.out.ext hx2) U1.out ?_; intro w3 hb3 hg3; have hB3 := hB2.grown hg3 (fun e => by injection e with e; omega); have q0 := hB3.cell 0; have q1 := hB3.cell 1; have q2 := hB3.cell 2; have q3 := hB3.cell 3; have hx3 : Ext W w3 := hx2.grown hg3 (fun k e => by cases e; omega))
    | (refine wpList_store_row rfl 25 (.tmp 35) (.tmp 34) rfl w1.heap.size (k * 4) 25 (pc ps) #[.int .u16 ic, .int .u8 ij, .int .u8 ik, .int .u32 il] rfl rfl hb3 (by rw [L1.out]; simp; omega) (by kernel_rfl) (by simp [Value.oneCell']) ?_; intro w4 hb4 hg4; have hB4 := hB3.grown hg4 (fun e => by injection e with e; omega); have p0 := hB4.cell 0; have p1 := hB4.cell 1; have p2 := hB4.cell 2; have p3 := hB4.cell 3; have hx4 : Ext W w4 := hx3.grown hg4 (fun k e => by cases e; omega)))
  refine (C1.out _).mono ?_
  rintro e w5 ⟨rfl, hx'⟩
  have hQ : InM w5 (some ⟨w1.heap.size, 0, none⟩) (pc (ps.set k ⟨ic, ij, ik, il⟩)) := (InM.ofBlk hb4 (by rw [← PS.out])).ext hx'
  have hx5 := hx4.trans hx'
  clear hx' q0 q1 q2 q3 p0 p1 p2 p3 hB2 hB3 hB4 hb3 hb4 hg3 hg4 hx1 hx2 hx3 hx4 hG C1
  go_wp2_with fail
  refine (C2.out _ _ _ hQ).mono ?_
  rintro e w6 ⟨rfl, hx'⟩
  have hx6 := hx5.trans hx'
  clear hx' hx5 hQ C2
  by_cases he : ev = 0
  · subst he
    go_wp2
    go_ret
    exact ⟨rfl, hx6⟩
  · obtain ⟨j, j1, rfl, j3, j4⟩ := SP.out he
    have e1 : (ev == 0) = false := by simpa using he
    have e2 : (ry != 0) = true := by simpa using j3
    have e3 : (j : Int) ≤ k := by omega
    clear he j3 SP
    by_cases hj : j < k
    · have e4 : (j : Int) < k := by omega
      clear j4
      go_wp2
      go_ret
      exact ⟨rfl, hx6⟩
    · have e4 : ¬ (j : Int) < k := by omega
      have e5 : (ry == ev) = true := by simpa using j4.resolve_left hj
      clear j4
      go_wp2
      go_ret
      exact ⟨rfl, hx6⟩
end Go.Proofs.Ytplpffcolcjboaa
