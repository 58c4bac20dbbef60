import Derived.Test.YtjlhfmedaandeaaWords
import Derived.Test.YtjlhfmedaandeaaData
import Derived.Deep.Slices
import Derived.Deep.Fields
import Derived.Test.YtjlhfmedaandeaaChunk
import Derived.Test.YtjlhfmedaandeaaBase
/- Programs (lists of instructions) as cells: plain words. -/
namespace Go.Proofs.Ytjlhfmedaandeaa
open Go.RowKit Go.ChangeShapes Go.WideShapes
set_option linter.unusedVariables false
set_option linter.unusedSimpArgs false

/-- A program's cells. -/
def pc (ps : List Ins) : List Value := ps.flatMap fun i => i.cells.toList
def zeroI : Ins := ⟨0, 0, 0, 0⟩
theorem pc_nil : pc [] = [] := rfl
theorem pc_cons (i : Ins) (ps : List Ins) : pc (i :: ps) = i.cells.toList ++ pc ps := rfl
theorem pc_append (a b : List Ins) : pc (a ++ b) = pc a ++ pc b := by simp [pc]
theorem pc_length : ∀ ps : List Ins, (pc ps).length = 4 * ps.length
  | [] => rfl
  | i :: ps => by rw [pc_cons, List.length_append, pc_length ps]; simp [Ins.cells]; omega
theorem pc_one : ∀ ps : List Ins, ∀ u ∈ pc ps, u.oneCell' = true := fun ps u hu => by
  obtain ⟨i, _, h⟩ := List.mem_flatMap.1 hu
  simp only [Ins.cells, List.mem_cons, List.not_mem_nil, or_false] at h
  rcases h with rfl | rfl | rfl | rfl <;> rfl
theorem pc_at : ∀ (ps : List Ins) (k r : Nat) (hk : k < ps.length), r < 4 → (pc ps)[k * 4 + r]? = ps[k].cells.toList[r]?
  | i :: ps, 0, r, _, hr => by
    rw [pc_cons, List.getElem?_append_left (by simp [Ins.cells]; omega)]
    simp
  | i :: ps, k + 1, r, hk, hr => by
    have hk' : k < ps.length := by simpa using hk
    rw [pc_cons, List.getElem?_append_right (by simp [Ins.cells]; omega)]
    have e : (k + 1) * 4 + r - i.cells.toList.length = k * 4 + r := by simp [Ins.cells]; omega
    rw [e, pc_at ps k r hk' hr]
    simp
theorem prog_cells {w : World} {b off : Nat} {ps : List Ins} (h : InM w (some ⟨b, off, none⟩) (pc ps)) {k : Nat} (hk : k < ps.length) :
    w.cell? ⟨b, off + k * 4, none⟩ = some (.int .u16 ps[k].code) ∧ w.cell? ⟨b, off + k * 4 + 1, none⟩ = some (.int .u8 ps[k].jt) ∧ w.cell? ⟨b, off + k * 4 + 2, none⟩ = some (.int .u8 ps[k].jf) ∧ w.cell? ⟨b, off + k * 4 + 3, none⟩ = some (.int .u32 ps[k].k) := by
  refine ⟨h.cell (k := k * 4) ?_, h.cell (k := k * 4 + 1) ?_, h.cell (k := k * 4 + 2) ?_, h.cell (k := k * 4 + 3) ?_⟩
  · exact pc_at ps k 0 hk (by omega)
  · exact pc_at ps k 1 hk (by omega)
  · exact pc_at ps k 2 hk (by omega)
  · exact pc_at ps k 3 hk (by omega)
theorem prog_some {w : World} {A : Option Addr} {ps : List Ins} (h : InM w A (pc ps)) (hk : 0 < ps.length) : ∃ b off, A = some ⟨b, off, none⟩ ∧ b < w.heap.size := h.some_ (by rw [pc_length]; omega)
theorem insC_pc (bs : List Int) (l : List Nat) : insC bs l = pc (l.map fun x => decI (piece bs x)) := by simp [insC, pc, List.flatMap_map]

theorem ins_eq (x y : Ins) : (decide (x = y)) = (x.code == y.code && (x.jt == y.jt && (x.jf == y.jf && x.k == y.k))) := by
  obtain ⟨a, b, c, d⟩ := x
  obtain ⟨e, f, g, h⟩ := y
  rw [Bool.eq_iff_iff]
  simp [Ins.mk.injEq]
theorem ins_equal (n : Nat) (x y : Ins) (W : World) : (Op.equalIn (n + 3) 43 x.val y.val).run Try.prog W = .ok (decide (x = y)) W := by
  have h16 : ∀ (x y : Int) (W : World), (Op.equalIn (n + 2) 29 (.int .u16 x) (.int .u16 y)).run Try.prog W = .ok (x == y) W := fun x y W => run_equalIn_int W (n + 1) _ .u16 .u16 x y Try.underlying29
  have h8 : ∀ (x y : Int) (W : World), (Op.equalIn (n + 2) 5 (.int .u8 x) (.int .u8 y)).run Try.prog W = .ok (x == y) W := fun x y W => run_equalIn_int W (n + 1) _ .u8 .u8 x y Try.underlying5
  have h32 : ∀ (x y : Int) (W : World), (Op.equalIn (n + 2) 30 (.int .u32 x) (.int .u32 y)).run Try.prog W = .ok (x == y) W := fun x y W => run_equalIn_int W (n + 1) _ .u32 .u32 x y Try.underlying30
  have i16 : ∀ W, (isAgg 29).run Try.prog W = .ok false W := fun _ => by kernel_rfl
  have i8 : ∀ W, (isAgg 5).run Try.prog W = .ok false W := fun _ => by kernel_rfl
  have i32 : ∀ W, (isAgg 30).run Try.prog W = .ok false W := fun _ => by kernel_rfl
  rw [ins_eq]
  obtain ⟨a, b, c, d⟩ := x
  obtain ⟨e, f, g, h⟩ := y
  have hf : (Try.prog.fieldsOf 43).toList.map (fun f => (f.name, f.type, f.offset)) = [("Code", 29, 0), ("JT", 5, 1), ("JF", 5, 2), ("K", 30, 3)] := by kernel_rfl
  simp only [Ins.val, Ins.cells]
  rw [run_equalIn_struct W (n + 2) 43 _ _ (by kernel_rfl) (by kernel_rfl)]
  generalize (Try.prog.fieldsOf 43).toList = L at hf
  obtain ⟨f0, f1, f2, f3, rfl⟩ : ∃ f0 f1 f2 f3, L = [f0, f1, f2, f3] := by
    have hl : L.length = 4 := by simpa using congrArg List.length hf
    clear hf
    match L, hl with
    | [a, b, c, d], _ => exact ⟨a, b, c, d, rfl⟩
  simp only [List.map_cons, List.map_nil, List.cons.injEq, Prod.mk.injEq, and_true] at hf
  obtain ⟨⟨n0, t0, o0⟩, ⟨n1, t1, o1⟩, ⟨n2, t2, o2⟩, n3, t3, o3⟩ := hf
  simp [Op.eqFields, part, *]
  repeat' split
  all_goals simp_all
theorem ins_eql (x y : Ins) (W : World) : (binOp .eql 43 x.val y.val).run Try.prog W = .ok (.bool (decide (x = y))) W := by
  have := ins_equal 9997 x y W
  rw [Ins.val, Ins.val] at this ⊢
  rw [run_eql_struct, this]
  rfl
theorem ins_neq (x y : Ins) (W : World) : (binOp .neq 43 x.val y.val).run Try.prog W = .ok (.bool (!decide (x = y))) W := by
  have := ins_equal 9997 x y W
  rw [Ins.val, Ins.val] at this ⊢
  rw [run_neq_struct, this]
  rfl
theorem ins_guard_neq (x y : Ins) (a b : Operand) (W : World) : (eqGuard .neq 43 a b x.val y.val).run Try.prog W = .ok () W := by kernel_rfl
theorem ins_guard_eql (x y : Ins) (a b : Operand) (W : World) : (eqGuard .eql 43 a b x.val y.val).run Try.prog W = .ok () W := by kernel_rfl
end Go.Proofs.Ytjlhfmedaandeaa

namespace Go.Proofs.Ytjlhfmedaandeaa
open Go.RowKit Go.ChangeShapes Go.WideShapes
set_option linter.unusedVariables false
set_option linter.unusedSimpArgs false

theorem same_of_at {α : Type} {ps qs : List α} (h : ps.length = qs.length) (hs : ∀ j (hp : j < ps.length) (hq : j < qs.length), ps[j] = qs[j]) : ps = qs := List.ext_getElem h fun j h1 h2 => hs j h1 h2

set_option maxRecDepth 100000 in
theorem refSameI (A B : Option Addr) (n c m d : Nat) (ps qs : List Ins) (w : World) (hp : ps.length = n) (hq : qs.length = m) (hb : n ≤ 1000000 ∧ m ≤ 1000000) (hM : InM w A (pc ps)) (hN : InM w B (pc qs)) :
    Calls Try.prog 19 #[.slice A n c, .slice B m d] w fun e w' => e = .returned (.bool (decide (ps = qs))) ∧ Ext w w' := by
  by_cases hnm : n = m
  · subst hnm
    have hR := Lib.hid hp
    have hS := Lib.hid hq
    have hT := Lib.hid (fun h : (∀ j (_ : j < n) (hp : j < ps.length) (hq : j < qs.length), ps[j] = qs[j]) => same_of_at (by omega) (fun j h1 h2 => h j (by omega) h1 h2))
    clear hp hq
    have d1 : ((n : Int) != n) = false := by simp
    go_enter Try.func19, Try.ntmps19
    go_wp2
    go_loopw [5] (fun i wr => ∃ k : Nat, k ≤ n ∧ i = .int .i64 k ∧ Ext w wr ∧ ∀ j (_ : j < k) (hp : j < ps.length) (hq : j < qs.length), ps[j] = qs[j]) (fun i _ => n - (intOf i).toNat)
    case atStart => exact ⟨0, by omega, rfl, Ext.refl _, fun j h => absurd h (by omega)⟩
    case round =>
      obtain ⟨k, hk, rfl, hx, hs⟩ := hrel
      by_cases hlt : k < n
      · have hkp : k < ps.length := by rw [hR.out]; exact hlt
        have hkq : k < qs.length := by rw [hS.out]; exact hlt
        obtain ⟨b1, o1, rfl, _⟩ := prog_some hM (by omega)
        obtain ⟨b2, o2, rfl, _⟩ := prog_some hN (by omega)
        have c1 := Lib.hid (fun (W : World) (h : Ext w W) => prog_cells (hM.ext h) hkp)
        have c2 := Lib.hid (fun (W : World) (h : Ext w W) => prog_cells (hN.ext h) hkq)
        have hne := Lib.hid (fun W => ins_neq ps[k] qs[k] W)
        have hs' : ps[k] = qs[k] → ∀ j (_ : j < k + 1) (hp : j < ps.length) (hq : j < qs.length), ps[j] = qs[j] := fun e j hj h1 h2 => by
          rcases Nat.lt_succ_iff_lt_or_eq.1 hj with h | rfl
          · exact hs j h h1 h2
          · exact e
        have hno : ps[k] ≠ qs[k] → decide (ps = qs) = false := fun h => by
          rw [decide_eq_false_iff_not]
          intro e
          subst e
          exact h rfl
        have HS := Lib.hid hs'
        have HN := Lib.hid hno
        clear hs hs' hno
        generalize ps[k] = P at *
        generalize qs[k] = Q at *
        have b3 : (0 : Int) ≤ k := by omega
        have b4 : (k : Int) < n := by omega
        go_wp2_with fail
        refine wp_region_mono rfl [.is ?va0, .is ?va1, .is ?va2, .is P.val, .is ?va4, .is ?va5, .is ?va6, .is Q.val, .is (.bool (!decide (P = Q)))] (by kernel_rfl) (by kernel_rfl) ?Aa ?hAa ⟨?oa0, ?oa1, ?oa2, ?oa3, ?oa4, ?oa5, ?oa6, ?oa7, ?oa8, trivial⟩ ?fina
        case hAa => (intro x; simp only [fillOps, Act.put, List.setIfInBounds_toArray, List.set_cons_zero, List.set_cons_succ, Nat.reduceAdd]; rfl)
        case oa0 =>
          intro x U hU
          simp only [depV, One, dstOf, readDst, asBool, VP.is, VP.any, VP.row, VP.ptr, VP.blk, VP.ex, VP.and, VP.of, List.getD_cons_zero, List.getD_cons_succ]
          go_wp2_with (fail)
          refine done_mk ?_ rfl (Ext.refl _)
          rfl
        case oa1 =>
          intro x U hU
          simp only [depV, One, dstOf, readDst, asBool, VP.is, VP.any, VP.row, VP.ptr, VP.blk, VP.ex, VP.and, VP.of, List.getD_cons_zero, List.getD_cons_succ]
          go_wp2_with (fail)
          refine done_mk ?_ rfl (Ext.refl _)
          rfl
        case oa2 =>
          intro x U hU
          simp only [depV, One, dstOf, readDst, asBool, VP.is, VP.any, VP.row, VP.ptr, VP.blk, VP.ex, VP.and, VP.of, List.getD_cons_zero, List.getD_cons_succ]
          intro d0
          intro d1
          simp only [d0, d1]
          go_wp2_with (fail)
          refine done_mk ?_ rfl (Ext.refl _)
          rfl
        case oa3 =>
          intro x U hU
          simp only [depV, One, dstOf, readDst, asBool, VP.is, VP.any, VP.row, VP.ptr, VP.blk, VP.ex, VP.and, VP.of, List.getD_cons_zero, List.getD_cons_succ]
          intro d2
          simp only [d2]
          obtain ⟨h0, h1, h2, h3⟩ := c1.out U (hx.trans hU)
          go_wp2_with (fail)
          refine done_mk ?_ rfl (Ext.refl _)
          rfl
        case oa4 =>
          intro x U hU
          simp only [depV, One, dstOf, readDst, asBool, VP.is, VP.any, VP.row, VP.ptr, VP.blk, VP.ex, VP.and, VP.of, List.getD_cons_zero, List.getD_cons_succ]
          go_wp2_with (fail)
          refine done_mk ?_ rfl (Ext.refl _)
          rfl
        case oa5 =>
          intro x U hU
          simp only [depV, One, dstOf, readDst, asBool, VP.is, VP.any, VP.row, VP.ptr, VP.blk, VP.ex, VP.and, VP.of, List.getD_cons_zero, List.getD_cons_succ]
          go_wp2_with (fail)
          refine done_mk ?_ rfl (Ext.refl _)
          rfl
        case oa6 =>
          intro x U hU
          simp only [depV, One, dstOf, readDst, asBool, VP.is, VP.any, VP.row, VP.ptr, VP.blk, VP.ex, VP.and, VP.of, List.getD_cons_zero, List.getD_cons_succ]
          intro d4
          intro d5
          simp only [d4, d5]
          go_wp2_with (fail)
          refine done_mk ?_ rfl (Ext.refl _)
          rfl
        case oa7 =>
          intro x U hU
          simp only [depV, One, dstOf, readDst, asBool, VP.is, VP.any, VP.row, VP.ptr, VP.blk, VP.ex, VP.and, VP.of, List.getD_cons_zero, List.getD_cons_succ]
          intro d6
          simp only [d6]
          obtain ⟨h0, h1, h2, h3⟩ := c2.out U (hx.trans hU)
          go_wp2_with (fail)
          refine done_mk ?_ rfl (Ext.refl _)
          rfl
        case oa8 =>
          intro x U hU
          simp only [depV, One, dstOf, readDst, asBool, VP.is, VP.any, VP.row, VP.ptr, VP.blk, VP.ex, VP.and, VP.of, List.getD_cons_zero, List.getD_cons_succ]
          intro d3
          intro d7
          simp only [d3, d7]
          have hne := hne.out U
          have hg := fun a b => ins_guard_neq P Q a b U
          go_wp2_with (fail)
          refine done_mk ?_ rfl (Ext.refl _)
          rfl
        case fina =>
          intro x U hU
          simp only [allV, depV, One, dstOf, readDst, asBool, VP.is, VP.any, VP.row, VP.ptr, VP.blk, VP.ex, VP.and, VP.of, List.getD_cons_zero, List.getD_cons_succ]
          intro d0
          intro d1
          intro d2
          intro d3
          intro d4
          intro d5
          intro d6
          intro d7
          intro d8
          simp only [d0, d1, d2, d3, d4, d5, d6, d7, d8]
          clear d0 d1 d2 d3 d4 d5 d6 d7 d8
          by_cases e : P = Q
          · have hs' := HS.out e
            have e2 : decide (P = Q) = true := by simpa using e
            rw [e2]
            go_wp2
            go_roundw
            case rel => exact ⟨k + 1, by omega, by go_num, hx.trans hU, hs'⟩
            case measure => simp [intOf]; omega
          · have e2 : decide (P = Q) = false := by simpa using e
            rw [e2]
            go_wp2
            go_ret
            exact ⟨ret_bool (HN.out e).symm, hx.trans hU⟩
      · obtain rfl : k = n := by omega
        go_wp2
        go_ret
        exact ⟨ret_bool (by rw [hT.out hs]; simp), hx⟩
  · have d1 : ((n : Int) != m) = true := by simp; omega
    have e : decide (ps = qs) = false := by
      rw [decide_eq_false_iff_not]
      intro e
      subst e
      omega
    go_enter Try.func19, Try.ntmps19
    go_wp2
    go_ret
    exact ⟨ret_bool e.symm, Ext.refl _⟩
end Go.Proofs.Ytjlhfmedaandeaa

namespace Go.Proofs.Ytjlhfmedaandeaa
open Go.RowKit Go.ChangeShapes Go.WideShapes
set_option linter.unusedVariables false
set_option linter.unusedSimpArgs false

end Go.Proofs.Ytjlhfmedaandeaa

namespace Go.Proofs.Ytjlhfmedaandeaa
open Go.RowKit Go.ChangeShapes Go.WideShapes
set_option linter.unusedVariables false
set_option linter.unusedSimpArgs false

theorem nums_append (k : IntKind) (a b : List Int) : nums k (a ++ b) = nums k a ++ nums k b := List.map_append
/-- A program's bytes. -/
def pb (ps : List Ins) : List Int := ps.flatMap Ins.bytes
theorem bytes_len (i : Ins) : i.bytes.length = 8 := by simp [Ins.bytes, leB_length]
theorem pb_append (a b : List Ins) : pb (a ++ b) = pb a ++ pb b := by simp [pb]
theorem pb_length : ∀ ps : List Ins, (pb ps).length = 8 * ps.length
  | [] => rfl
  | i :: ps => by
    have := pb_length ps
    simp only [pb, List.flatMap_cons, List.length_append, bytes_len] at this ⊢
    rw [this, List.length_cons]
    omega
theorem pb_take (ps : List Ins) (k : Nat) (hk : k < ps.length) : pb (ps.take (k + 1)) = pb (ps.take k) ++ ps[k].bytes := by
  rw [List.take_succ_eq_append_getElem hk, pb_append]
  simp [pb]

end Go.Proofs.Ytjlhfmedaandeaa

namespace Go.Proofs.Ytjlhfmedaandeaa
open Go.RowKit Go.ChangeShapes Go.WideShapes
set_option linter.unusedVariables false
set_option linter.unusedSimpArgs false

end Go.Proofs.Ytjlhfmedaandeaa

namespace Go.Proofs.Ytjlhfmedaandeaa
open Go.RowKit Go.ChangeShapes Go.WideShapes
set_option linter.unusedVariables false
set_option linter.unusedSimpArgs false

/-- The first m instructions of bytes. -/
def dp (bs : List Int) (m : Nat) : List Ins := (List.range m).map fun x => decI (piece bs x)
theorem dp_succ (bs : List Int) (m : Nat) : dp bs (m + 1) = dp bs m ++ [decI (piece bs m)] := by simp [dp, List.range_succ]
theorem dp_length (bs : List Int) (m : Nat) : (dp bs m).length = m := by simp [dp]
theorem insC_dp (bs : List Int) (m : Nat) : insC bs (List.range m) = pc (dp bs m) := insC_pc bs _
theorem decI_ok {ys : List Int} (h : Byt ys) : (decI ys).ok := by
  have a := getB_bd h 0 2
  have b := getB_bd h 4 4
  have g : ∀ k, 0 ≤ ys.getD k 0 ∧ ys.getD k 0 < 256 := fun k => by
    rw [List.getD_eq_getElem?_getD]
    by_cases hk : k < ys.length
    · rw [List.getElem?_eq_getElem hk]
      exact byt_at h hk
    · rw [List.getElem?_eq_none (by omega)]
      decide
  exact ⟨a, g 2, g 3, b⟩
theorem dp_ok {bs : List Int} (h : Byt bs) (m : Nat) : ∀ i ∈ dp bs m, i.ok := fun i hi => by
  obtain ⟨x, _, rfl⟩ := List.mem_map.1 hi
  exact decI_ok ((h.drop _).take _)

end Go.Proofs.Ytjlhfmedaandeaa

namespace Go.Proofs.Ytjlhfmedaandeaa
open Go.RowKit Go.ChangeShapes Go.WideShapes
set_option linter.unusedVariables false
set_option linter.unusedSimpArgs false

def pm (n : Nat) : Nat := if n % 8 = 0 then n / 8 else 0
def pe (n : Nat) : Int := if n % 8 = 0 then 0 else 20
def dI (bs : List Int) : Ins := if bs.length = 8 then decI bs else zeroI
def dE (n : Nat) : Int := if n = 8 then 0 else 20
/-- One cell of an own row of instructions is written: its K. -/
theorem pc_setK : ∀ (ps : List Ins) (k : Nat) (x : Int) (hk : k < ps.length), (pc ps).set (k * 4 + 3) (.int .u32 x) = pc (ps.set k { ps[k] with k := x })
  | i :: ps, 0, x, _ => by
    obtain ⟨a, b, c, d⟩ := i
    simp [pc, Ins.cells]
  | i :: ps, k + 1, x, hk => by
    have hk' : k < ps.length := by simpa using hk
    have := pc_setK ps k x hk'
    rw [pc_cons, List.set_append_right _ _ (by simp [Ins.cells]; omega)]
    have e : (k + 1) * 4 + 3 - i.cells.toList.length = k * 4 + 3 := by simp [Ins.cells]; omega
    rw [e, this]
    simp [pc_cons]
theorem own_setK {w : World} {base g n cap : Nat} {t : TypeId} {ps : List Ins} (h : w.ownsRow base t 4 (.slice (some ⟨g, 0, none⟩) n cap) n (pc ps)) {k : Nat} (hk : k < ps.length) (x : Int) :
    (w.setCell ⟨g, k * 4 + 3, none⟩ (.int .u32 x)).ownsRow base t 4 (.slice (some ⟨g, 0, none⟩) n cap) n (pc (ps.set k { ps[k] with k := x })) := by
  have := (h.stored (k * 4 + 3) (.int .u32 x)).1
  rwa [pc_setK ps k x hk] at this
theorem refSameI_true (A B : Option Addr) (n c m d : Nat) (ps : List Ins) (w : World) (hp : ps.length = n) (hm : n = m) (hb : n ≤ 1000000) (hM : InM w A (pc ps)) (hN : InM w B (pc ps)) :
    Calls Try.prog 19 #[.slice A n c, .slice B m d] w fun e w' => e = .returned (.bool true) ∧ Ext w w' := by
  subst hm
  have := refSameI A B n c n d ps ps w hp hp ⟨hb, hb⟩ hM hN
  rwa [decide_eq_true rfl] at this
end Go.Proofs.Ytjlhfmedaandeaa

namespace Go.Proofs.Ytjlhfmedaandeaa
open Go.RowKit Go.ChangeShapes Go.WideShapes
set_option linter.unusedVariables false
set_option linter.unusedSimpArgs false
attribute [local go_sem] Oper.semAt_some

theorem grown_of_ext {W W' : World} (h : Ext W W') (row : Option Nat) : W.grownBy W' row := ⟨h.os, h.tape, h.output, h.size, fun k hk _ => h.block hk⟩
theorem own_noncells {W W' : World} {base : Nat} {e : TypeId} {size n : Nat} {v : Value} {xs : List Value} {row : Option Nat} (h : W.ownsRow base e size v n xs) (hg : W.grownBy W' row) (hr : ∀ r, row = some r → ∃ o : Obj, W.heap[r]? = some o ∧ o.isCells = false) : W'.ownsRow base e size v n xs := by
  refine h.kept hg ?_
  rcases h.2 with ⟨hv, _⟩ | ⟨g, cap, cur, hv, _, hb, _⟩
  · subst hv
    exact .inl rfl
  · refine .inr fun e => ?_
    subst hv
    obtain ⟨o, ho, hc⟩ := hr g e.symm
    rw [hb] at ho
    injection ho with ho
    subst ho
    cases hc
theorem blk_noncells {W W' : World} {g : Nat} {t : TypeId} {cs : Array Value} {row : Option Nat} (h : Blk W g t cs) (hg : W.grownBy W' row) (hr : ∀ r, row = some r → ∃ o : Obj, W.heap[r]? = some o ∧ o.isCells = false) : Blk W' g t cs := by
  refine h.grown hg fun e => ?_
  obtain ⟨o, ho, hc⟩ := hr g e.symm
  unfold Blk at h
  rw [h] at ho
  injection ho with ho
  subst ho
  cases hc
/-- Rows of unlike types lie in unlike blocks. -/
theorem own_apart {W W' : World} {b1 b2 : Nat} {e1 e2 : TypeId} {s1 s2 n1 n2 : Nat} {v1 v2 : Value} {xs1 xs2 : List Value} (h : W.ownsRow b1 e1 s1 v1 n1 xs1) (k : W.ownsRow b2 e2 s2 v2 n2 xs2) (hne : e1 ≠ e2) (hg : W.grownBy W' v2.ownBlock) : W'.ownsRow b1 e1 s1 v1 n1 xs1 := by
  refine h.kept hg ?_
  rcases h.2 with ⟨hv, _⟩ | ⟨g, cap, cur, hv, _, hb, _⟩
  · subst hv
    exact .inl rfl
  · refine .inr fun e => ?_
    subst hv
    rcases k.2 with ⟨hv, _⟩ | ⟨g', cap', cur', hv, _, hb', _⟩
    · subst hv
      cases e
    · subst hv
      injection e with e
      subst e
      rw [hb] at hb'
      injection hb' with hb'
      injection hb' with _ h2
      exact hne h2
theorem own_apart_blk {W W' : World} {b1 : Nat} {e1 e2 : TypeId} {s1 n1 : Nat} {v1 : Value} {xs1 : List Value} {g : Nat} {cs : Array Value} (h : W.ownsRow b1 e1 s1 v1 n1 xs1) (k : Blk W g e2 cs) (hne : e1 ≠ e2) (hg : W.grownBy W' (some g)) : W'.ownsRow b1 e1 s1 v1 n1 xs1 := by
  refine h.kept hg ?_
  rcases h.2 with ⟨hv, _⟩ | ⟨g', cap, cur, hv, _, hb, _⟩
  · subst hv
    exact .inl rfl
  · refine .inr fun e => ?_
    subst hv
    injection e with e
    subst e
    unfold Blk at k
    rw [hb] at k
    injection k with k
    injection k with _ h2
    exact hne h2

theorem inM_below {w w' : World} {b off B : Nat} {xs : List Value} (h : InM w (some ⟨b, off, none⟩) xs) (hb : b < B) (hB : Below B w w') : InM w' (some ⟨b, off, none⟩) xs := fun j u hu =>
  ⟨b, off, rfl, (hB.cell (p := ⟨b, off + j, none⟩) hb).trans (h.cell hu)⟩
/-- A value that is yielded: whose bytes, where. -/
structure Yl where
  i : Nat
  A : Option Addr
  c : Nat
def Yl.val (y : Yl) : Value := .slice y.A 8 y.c
def YG (ps : List Ins) (y : Yl) (W : World) : Prop := ∃ h : y.i < ps.length, W.ownsRow 0 5 1 (.slice y.A 8 y.c) 8 (nums .u8 ps[y.i].bytes)

end Go.Proofs.Ytjlhfmedaandeaa

namespace Go.Proofs.Ytjlhfmedaandeaa
open Go.RowKit Go.ChangeShapes Go.WideShapes
set_option linter.unusedVariables false
set_option linter.unusedSimpArgs false
attribute [local go_sem] Oper.semAt_some

theorem yl_one (pre : List Yl) : ∀ u ∈ pre.map Yl.val, u.oneCell' = true := fun u hu => by
  obtain ⟨y, _, rfl⟩ := List.mem_map.1 hu
  rfl
/-- The rows that were yielded, as rows to be put one behind the other. -/
def yls (ps : List Ins) (xs : List Yl) : List Sl := xs.map fun y => ⟨y.A, 8, y.c, (ps.getD y.i zeroI).bytes⟩
theorem yls_val (ps : List Ins) (xs : List Yl) : (yls ps xs).map Sl.val = xs.map Yl.val := by simp [yls, Sl.val, Yl.val]
theorem yls_ok {W : World} {ps : List Ins} {xs : List Yl} (h : ∀ y ∈ xs, YG ps y W) : ∀ s ∈ yls ps xs, s.ok W := fun s hs => by
  obtain ⟨y, hy, rfl⟩ := List.mem_map.1 hs
  obtain ⟨hi, ho⟩ := h y hy
  rw [List.getD_eq_getElem?_getD, List.getElem?_eq_getElem hi]
  exact ⟨bytes_len _, own_inM ho⟩
theorem tot_yls (ps : List Ins) : ∀ xs : List Yl, tot (yls ps xs) = 8 * xs.length
  | [] => rfl
  | y :: xs => by
    have := tot_yls ps xs
    simp only [yls, List.map_cons, tot, List.length_cons] at this ⊢
    omega
theorem flat_yls (ps : List Ins) : ∀ xs : List Yl, flat (yls ps xs) = pb ((xs.map (·.i)).map fun i => ps.getD i zeroI)
  | [] => rfl
  | y :: xs => by
    have := flat_yls ps xs
    simp only [yls, List.map_cons, flat, pb, List.flatMap_cons] at this ⊢
    rw [this]
theorem range_getD (ps : List Ins) : (List.range ps.length).map (fun i => ps.getD i zeroI) = ps := by
  apply List.ext_getElem
  · simp
  · intro i h1 h2
    simp only [List.getElem_map, List.getElem_range]
    rw [List.getD_eq_getElem?_getD, List.getElem?_eq_getElem h2]
    rfl

end Go.Proofs.Ytjlhfmedaandeaa

/- Plain laws of programs and their bytes. -/
namespace Go.Proofs.Ytjlhfmedaandeaa
open Go.RowKit Go.ChangeShapes Go.WideShapes
set_option linter.unusedVariables false
set_option linter.unusedSimpArgs false

theorem leB2 (x : Int) : leB 2 x = [x % 256, x / 256 % 256] := rfl
theorem leB4' (x : Int) : leB 4 x = [x % 256, x / 256 % 256, x / 256 / 256 % 256, x / 256 / 256 / 256 % 256] := rfl
theorem decI_bytes (i : Ins) (h : i.ok) : decI i.bytes = i := by
  obtain ⟨⟨c0, c1⟩, _, _, k0, k1⟩ := h
  obtain ⟨co, jt, jf, k⟩ := i
  have e1 : getB (Ins.mk co jt jf k).bytes 0 2 = leN (leB 2 co) := rfl
  have e2 : getB (Ins.mk co jt jf k).bytes 4 4 = leN (leB 4 k) := rfl
  have e3 : (Ins.mk co jt jf k).bytes.getD 2 0 = jt := rfl
  have e4 : (Ins.mk co jt jf k).bytes.getD 3 0 = jf := rfl
  unfold decI
  rw [e1, e2, e3, e4, leN_leB 2 co c0 c1, leN_leB 4 k k0 k1]
theorem bytes_decI (ys : List Int) (hn : ys.length = 8) (hB : Byt ys) : (decI ys).bytes = ys := by
  match ys, hn with
  | [a, b, c, d, e, f, g, h], _ =>
    have h1 := leB_leN [a, b] (fun x hx => hB x (by simp at hx ⊢; rcases hx with rfl | rfl <;> simp))
    have h2 := leB_leN [e, f, g, h] (fun x hx => hB x (by simp at hx ⊢; rcases hx with rfl | rfl | rfl | rfl <;> simp))
    show leB 2 (leN [a, b]) ++ [c, d] ++ leB 4 (leN [e, f, g, h]) = _
    rw [show (2 : Nat) = [a, b].length from rfl, h1, show (4 : Nat) = [e, f, g, h].length from rfl, h2]
    rfl
theorem piece_pb : ∀ (ps : List Ins) (k : Nat) (hk : k < ps.length), piece (pb ps) k = ps[k].bytes
  | i :: ps, 0, _ => by
    unfold piece
    have : pb (i :: ps) = i.bytes ++ pb ps := rfl
    rw [this, Nat.mul_zero, List.drop_zero, List.take_append_of_le_length (by rw [bytes_len]; exact Nat.le_refl _), List.take_of_length_le (by rw [bytes_len]; exact Nat.le_refl _)]
    rfl
  | i :: ps, k + 1, hk => by
    have hk' : k < ps.length := by simpa using hk
    have ih := piece_pb ps k hk'
    unfold piece at ih ⊢
    have : pb (i :: ps) = i.bytes ++ pb ps := rfl
    rw [this, List.drop_append, List.drop_eq_nil_of_le (by rw [bytes_len]; omega), List.nil_append, bytes_len, show 8 * (k + 1) - 8 = 8 * k from by omega, ih]
    rfl
theorem dp_pb (ps : List Ins) (h : ∀ i ∈ ps, i.ok) : dp (pb ps) ps.length = ps := by
  apply List.ext_getElem
  · rw [dp_length]
  · intro k h1 h2
    have : (dp (pb ps) ps.length)[k] = decI (piece (pb ps) k) := by simp [dp]
    rw [this, piece_pb ps k h2, decI_bytes _ (h _ (List.getElem_mem h2))]
theorem pb_dp_take (bs : List Int) (hB : Byt bs) : ∀ k, 8 * k ≤ bs.length → pb (dp bs k) = bs.take (8 * k)
  | 0, _ => by simp [dp, pb]
  | k + 1, h => by
    rw [dp_succ, pb_append, pb_dp_take bs hB k (by omega)]
    have hl : (piece bs k).length = 8 := by unfold piece; rw [List.length_take, List.length_drop]; omega
    have : pb [decI (piece bs k)] = piece bs k := by
      have := bytes_decI (piece bs k) hl ((hB.drop _).take _)
      simpa [pb] using this
    rw [this]
    unfold piece
    rw [show 8 * (k + 1) = 8 * k + 8 from by omega, List.take_add]
theorem pb_dp (bs : List Int) (hB : Byt bs) (m : Nat) (h : bs.length = 8 * m) : pb (dp bs m) = bs := by
  rw [pb_dp_take bs hB m (by omega), List.take_of_length_le (by omega)]
theorem pb_inj (a b : List Ins) (ha : ∀ i ∈ a, i.ok) (hb : ∀ i ∈ b, i.ok) : pb a = pb b ↔ a = b := by
  refine ⟨fun h => ?_, fun h => by rw [h]⟩
  have hl : a.length = b.length := by
    have := congrArg List.length h
    rw [pb_length, pb_length] at this
    omega
  rw [← dp_pb a ha, ← dp_pb b hb, h, hl]
theorem leB_byt' (n : Nat) (x : Int) : Byt (leB n x) := leB_byt n x
theorem pb_byt : ∀ (ps : List Ins), (∀ i ∈ ps, i.ok) → Byt (pb ps)
  | [], _ => fun x hx => by cases hx
  | i :: ps, h => by
    have hi := h i (List.mem_cons_self ..)
    refine Byt.append (Byt.append (Byt.append (leB_byt 2 _) ?_) (leB_byt 4 _)) (pb_byt ps fun j hj => h j (List.mem_cons_of_mem _ hj))
    intro x hx
    simp only [List.mem_cons, List.not_mem_nil, or_false] at hx
    rcases hx with rfl | rfl
    · exact hi.2.1
    · exact hi.2.2.1
theorem own_cap {w : World} {base : Nat} {e : TypeId} {size n c m : Nat} {A : Option Addr} {xs : List Value} (h : w.ownsRow base e size (.slice A n c) m xs) : n ≤ c ∧ c ≤ 9223372036854775807 := by
  rcases h.2 with ⟨hv, _⟩ | ⟨g, cap, cur, hv, _, _, h1, h2, _⟩
  · simp only [Value.slice.injEq] at hv
    obtain ⟨_, rfl, rfl⟩ := hv
    decide
  · simp only [Value.slice.injEq] at hv
    obtain ⟨_, rfl, rfl⟩ := hv
    unfold maxLen at h2
    omega
end Go.Proofs.Ytjlhfmedaandeaa

namespace Go.Proofs.Ytjlhfmedaandeaa
open Go.ChangeShapes Go.WideShapes Go.ChangeAt Go.RowKit
set_option linter.unusedVariables false
section
variable {H : Type} {enc : TypeId × Value → H} {W : World}

theorem trod_u32 {base fuel : Nat} {sp : Nat → Bool} {hd : Bool} {v : Value} {x : DataW H × List MemPlace} (h : DataW.trod enc Try.prog W base sp hd fuel 30 [v] = some x) : ∃ n, v = .int .u32 n ∧ U32 n := by
  obtain ⟨n, e, _, hw⟩ := DataW.trod_int Try.underlying30 h
  simp only [List.cons.injEq, and_true] at e
  exact ⟨n, e, wf_u32 hw⟩
theorem trod_u64 {base fuel : Nat} {sp : Nat → Bool} {hd : Bool} {v : Value} {x : DataW H × List MemPlace} (h : DataW.trod enc Try.prog W base sp hd fuel 50 [v] = some x) : ∃ n, v = .int .u64 n ∧ U64 n := by
  obtain ⟨n, e, _, hw⟩ := DataW.trod_int Try.underlying50 h
  simp only [List.cons.injEq, and_true] at e
  exact ⟨n, e, wf_u64 hw⟩

theorem get_some {α : Type} {l : List α} {i : Nat} (h : i < l.length) : ∃ x, l[i]? = some x := ⟨l[i], List.getElem?_eq_getElem h⟩

set_option maxRecDepth 100000 in
theorem open_data {base : Nat} {v : Value} {d : DataW H} {p : List MemPlace} (hv : Value.okWide Try.prog W .any base 53 v) (h : DataW.Trod enc Try.prog W 0 (fun _ => true) true 53 v d p) :
    ∃ D : Dat, v = D.val ∧ D.ok := by
  have hC : Try.prog.cellsOf 53 = 9 := by kernel_rfl
  have hC64 : Try.prog.cellsOf 50 = 1 := by kernel_rfl
  have hA : Try.prog.underlying 51 = some (.array 6 50) := by kernel_rfl
  obtain ⟨cs, rfl, hsz⟩ := okWide_struct Try.underlying53 hv
  rw [hC] at hsz
  obtain ⟨l⟩ := cs
  match l, hsz with
  | [v0, v1, v2, v3, v4, v5, v6, v7, v8], _ =>
    obtain ⟨fuel, hf⟩ := h
    obtain ⟨xs, n, _, _, _, hlen, hg⟩ := DataW.trod_struct Try.underlying53 hf
    have hlen : xs.length = 4 := hlen
    obtain ⟨y0, e0⟩ := get_some (l := xs) (i := 0) (by omega)
    obtain ⟨y1, e1⟩ := get_some (l := xs) (i := 1) (by omega)
    obtain ⟨y2, e2⟩ := get_some (l := xs) (i := 2) (by omega)
    obtain ⟨y3, e3⟩ := get_some (l := xs) (i := 3) (by omega)
    have g0 := hg 0 _ rfl
    have g1 := hg 1 _ rfl
    have g2 := hg 2 _ rfl
    have g3 := hg 3 _ rfl
    simp only [Value.cells] at g0 g1 g2 g3
    rw [e0] at g0
    rw [e1] at g1
    rw [e2] at g2
    rw [e3] at g3
    obtain ⟨nr, rfl, u0⟩ := trod_u32 g0
    obtain ⟨arch, rfl, u1⟩ := trod_u32 g1
    obtain ⟨ip, rfl, u2⟩ := trod_u64 g2
    obtain ⟨zs, m, _, _, _, hzl, hz⟩ := DataW.trod_array hA g3
    obtain ⟨z0, k0⟩ := get_some (l := zs) (i := 0) (by omega)
    obtain ⟨z1, k1⟩ := get_some (l := zs) (i := 1) (by omega)
    obtain ⟨z2, k2⟩ := get_some (l := zs) (i := 2) (by omega)
    obtain ⟨z3, k3⟩ := get_some (l := zs) (i := 3) (by omega)
    obtain ⟨z4, k4⟩ := get_some (l := zs) (i := 4) (by omega)
    obtain ⟨z5, k5⟩ := get_some (l := zs) (i := 5) (by omega)
    have w0 := hz 0 (by omega)
    have w1 := hz 1 (by omega)
    have w2 := hz 2 (by omega)
    have w3 := hz 3 (by omega)
    have w4 := hz 4 (by omega)
    have w5 := hz 5 (by omega)
    simp only [hC64, List.drop, Nat.mul_one] at w0 w1 w2 w3 w4 w5
    rw [k0] at w0
    rw [k1] at w1
    rw [k2] at w2
    rw [k3] at w3
    rw [k4] at w4
    rw [k5] at w5
    obtain ⟨a0, rfl, u3⟩ := trod_u64 w0
    obtain ⟨a1, rfl, u4⟩ := trod_u64 w1
    obtain ⟨a2, rfl, u5⟩ := trod_u64 w2
    obtain ⟨a3, rfl, u6⟩ := trod_u64 w3
    obtain ⟨a4, rfl, u7⟩ := trod_u64 w4
    obtain ⟨a5, rfl, u8⟩ := trod_u64 w5
    exact ⟨⟨nr, arch, ip, a0, a1, a2, a3, a4, a5⟩, rfl, ⟨u0, u1, u2, u3, u4, u5, u6, u7, u8⟩⟩
end
end Go.Proofs.Ytjlhfmedaandeaa

/- A slice of instructions, one instruction, as arguments. -/
namespace Go.Proofs.Ytjlhfmedaandeaa
open Go.ChangeShapes Go.WideShapes Go.ChangeAt Go.RowKit Go.Deep
set_option linter.unusedVariables false
section
variable {H : Type} {enc : TypeId × Value → H} {W : World}

theorem trod_one {k : IntKind} {t : TypeId} {u : TypeId} {base fuel : Nat} {sp : Nat → Bool} {hd : Bool} {v : Value} {x : DataW H × List MemPlace} (hu : Try.prog.underlying t = some (.int k)) (h : DataW.trod enc Try.prog W base sp hd fuel t [v] = some x) : ∃ n, v = .int k n ∧ (Lit.int k n).wf = true := by
  obtain ⟨n, e, _, hw⟩ := DataW.trod_int hu h
  simp only [List.cons.injEq, and_true] at e
  exact ⟨n, e, hw⟩
set_option maxRecDepth 100000 in
theorem trod_ins {base fuel : Nat} {sp : Nat → Bool} {hd : Bool} {l : List Value} {x : DataW H × List MemPlace} (hl : l.length = 4) (h : DataW.trod enc Try.prog W base sp hd fuel 43 l = some x) :
    ∃ I : Ins, l = I.cells.toList ∧ I.ok := by
  match l, hl with
  | [v0, v1, v2, v3], _ =>
    obtain ⟨xs, n, _, _, _, hlen, hg⟩ := DataW.trod_struct Try.underlying43 h
    have hlen : xs.length = 4 := hlen
    obtain ⟨y0, e0⟩ := get_some (l := xs) (i := 0) (by omega)
    obtain ⟨y1, e1⟩ := get_some (l := xs) (i := 1) (by omega)
    obtain ⟨y2, e2⟩ := get_some (l := xs) (i := 2) (by omega)
    obtain ⟨y3, e3⟩ := get_some (l := xs) (i := 3) (by omega)
    have g0 := hg 0 _ rfl
    have g1 := hg 1 _ rfl
    have g2 := hg 2 _ rfl
    have g3 := hg 3 _ rfl
    rw [e0] at g0
    rw [e1] at g1
    rw [e2] at g2
    rw [e3] at g3
    obtain ⟨a, rfl, wa⟩ := trod_one (u := 0) Try.underlying29 g0
    obtain ⟨b, rfl, wb⟩ := trod_one (u := 0) Try.underlying5 g1
    obtain ⟨c, rfl, wc⟩ := trod_one (u := 0) Try.underlying5 g2
    obtain ⟨d, rfl, wd⟩ := trod_one (u := 0) Try.underlying30 g3
    exact ⟨⟨a, b, c, d⟩, rfl, by have := wf_u16 wa; exact ⟨this.1, by have := this.2; show a < 256 ^ 2; omega⟩, wf_u8 wb, wf_u8 wc, by have := wf_u32 wd; exact ⟨this.1, by have := this.2; show d < 256 ^ 4; omega⟩⟩
set_option maxRecDepth 100000 in
theorem open_insn {base : Nat} {v : Value} {d : DataW H} {p : List MemPlace} (hv : Value.okWide Try.prog W .any base 43 v) (h : DataW.Trod enc Try.prog W 0 (fun _ => true) true 43 v d p) :
    ∃ I : Ins, v = I.val ∧ I.ok := by
  have hC : Try.prog.cellsOf 43 = 4 := by kernel_rfl
  obtain ⟨cs, rfl, hsz⟩ := okWide_struct Try.underlying43 hv
  rw [hC] at hsz
  obtain ⟨fuel, hf⟩ := h
  obtain ⟨I, e, ok⟩ := trod_ins (l := cs.toList) (by simpa using hsz) hf
  refine ⟨I, ?_, ok⟩
  unfold Ins.val
  congr 1
  exact Array.toList_inj.1 e
set_option maxRecDepth 100000 in
theorem open_insns {base : Nat} {v : Value} {d : DataW H} {p : List MemPlace} (hv : Value.okWide Try.prog W .any base 33 v) (h : DataW.Trod enc Try.prog W 0 (fun _ => true) true 33 v d p) :
    ∃ (A : Option Addr) (n c : Nat) (ps : List Ins), v = .slice A n c ∧ ps.length = n ∧ (n ≤ c ∧ c ≤ maxLen) ∧ (∀ i ∈ ps, i.ok) ∧ InM W A (pc ps) := by
  have hC : Try.prog.cellsOf 43 = 4 := by kernel_rfl
  obtain ⟨a0, len, cap, rfl⟩ := okWide_slice Try.underlying33 hv
  obtain ⟨fuel, hf⟩ := h
  rcases open_slice Try.underlying33 hf with ⟨hcs, _⟩ | ⟨a, len', cap', m, n, D, Pl, hcs, hb, hl, hm, hmm, hx, hi⟩
  · simp [Value.cells] at hcs
    obtain ⟨rfl, rfl, rfl⟩ := hcs
    exact ⟨none, 0, 0, [], rfl, rfl, ⟨Nat.le_refl _, Nat.zero_le _⟩, fun x hx => by simp at hx, InM.nil _ _⟩
  · simp [Value.cells] at hcs
    obtain ⟨rfl, rfl, rfl⟩ := hcs
    have hm2 : m = cap := by simpa using hmm
    have key : ∀ i, i < len → ∃ I : Ins, I.ok ∧ ∀ r, r < 4 → W.cell? (a.add (i * 4 + r)) = I.cells.toList[r]? := fun i hlt => by
      obtain ⟨cs', hc, ht⟩ := hi i (by omega)
      rw [hC] at hc
      obtain ⟨_, hcl, hat⟩ := World.cells?_some hc
      obtain ⟨I, e, ok⟩ := trod_ins hcl ht
      refine ⟨I, ok, fun r hr => ?_⟩
      have := hat r hr
      rw [add_add, e] at this
      exact this
    obtain ⟨f, hf2⟩ : ∃ f : Nat → Ins, ∀ i, i < len → (f i).ok ∧ ∀ r, r < 4 → W.cell? (a.add (i * 4 + r)) = (f i).cells.toList[r]? :=
      ⟨fun i => if h : i < len then Classical.choose (key i h) else zeroI, fun i h => by
        simp only [dif_pos h]
        exact Classical.choose_spec (key i h)⟩
    have hlen : ((List.range len).map f).length = len := by simp
    refine ⟨some a, len, cap, (List.range len).map f, rfl, hlen, ⟨hl, hm⟩, fun I hI => ?_, fun j u hu => ?_⟩
    · obtain ⟨i, hi, rfl⟩ := List.mem_map.1 hI
      exact (hf2 i (List.mem_range.1 hi)).1
    · have hj : j < (pc ((List.range len).map f)).length := (List.getElem?_eq_some_iff.1 hu).1
      rw [pc_length, hlen] at hj
      have hq : j / 4 < ((List.range len).map f).length := by rw [hlen]; omega
      have hu2 := pc_at ((List.range len).map f) (j / 4) (j % 4) hq (by omega)
      rw [show j / 4 * 4 + j % 4 = j from by omega, hu] at hu2
      have hc := (hf2 (j / 4) (by omega)).2 (j % 4) (by omega)
      rw [show j / 4 * 4 + j % 4 = j from by omega] at hc
      simp only [List.getElem_map, List.getElem_range] at hu2
      obtain ⟨b, off, spot⟩ := a
      have hspot : spot = none := by
        have h0 := (hf2 0 (by omega)).2 0 (by omega)
        obtain ⟨u0, hu0⟩ : ∃ u0, (f 0).cells.toList[0]? = some u0 := ⟨_, rfl⟩
        rw [hu0] at h0
        have h3 := World.cell?_spot h0
        simpa [Addr.add] using h3
      subst hspot
      rw [add_plain] at hc
      exact ⟨b, off, rfl, by rw [hc, ← hu2]⟩
end
end Go.Proofs.Ytjlhfmedaandeaa
