/- Programs (lists of instructions) as cells: plain words. -/
import Derived.Test.YtlicndonhmcmmaaInsn12
namespace Go.Proofs.Ytlicndonhmcmmaa
open Go.RowKit Go.ChangeShapes Go.WideShapes
set_option linter.unusedVariables false
set_option linter.unusedSimpArgs false

/-- A program's cells. -/
def pc (ps : List Ins) : List Value := ps.flatMap fun i => i.cells.toList
def zeroI : Ins := ⟨0, 0, 0, 0⟩
theorem pc_nil : pc [] = [] := rfl
theorem pc_cons (i : Ins) (ps : List Ins) : pc (i :: ps) = i.cells.toList ++ pc ps := rfl
theorem pc_append (a b : List Ins) : pc (a ++ b) = pc a ++ pc b := by simp [pc]
theorem pc_length : ∀ ps : List Ins, (pc ps).length = 4 * ps.length
  | [] => rfl
  | i :: ps => by rw [pc_cons, List.length_append, pc_length ps]; simp [Ins.cells]; omega
theorem pc_one : ∀ ps : List Ins, ∀ u ∈ pc ps, u.oneCell' = true := fun ps u hu => by
  obtain ⟨i, _, h⟩ := List.mem_flatMap.1 hu
  simp only [Ins.cells, List.mem_cons, List.not_mem_nil, or_false] at h
  rcases h with rfl | rfl | rfl | rfl <;> rfl
theorem pc_at : ∀ (ps : List Ins) (k r : Nat) (hk : k < ps.length), r < 4 → (pc ps)[k * 4 + r]? = ps[k].cells.toList[r]?
  | i :: ps, 0, r, _, hr => by
    rw [pc_cons, List.getElem?_append_left (by simp [Ins.cells]; omega)]
    simp
  | i :: ps, k + 1, r, hk, hr => by
    have hk' : k < ps.length := by simpa using hk
    rw [pc_cons, List.getElem?_append_right (by simp [Ins.cells]; omega)]
    have e : (k + 1) * 4 + r - i.cells.toList.length = k * 4 + r := by simp [Ins.cells]; omega
    rw [e, pc_at ps k r hk' hr]
    simp
theorem prog_cells {w : World} {b off : Nat} {ps : List Ins} (h : InM w (some ⟨b, off, none⟩) (pc ps)) {k : Nat} (hk : k < ps.length) :
    w.cell? ⟨b, off + k * 4, none⟩ = some (.int .u16 ps[k].code) ∧ w.cell? ⟨b, off + k * 4 + 1, none⟩ = some (.int .u8 ps[k].jt) ∧ w.cell? ⟨b, off + k * 4 + 2, none⟩ = some (.int .u8 ps[k].jf) ∧ w.cell? ⟨b, off + k * 4 + 3, none⟩ = some (.int .u32 ps[k].k) := by
  refine ⟨h.cell (k := k * 4) ?_, h.cell (k := k * 4 + 1) ?_, h.cell (k := k * 4 + 2) ?_, h.cell (k := k * 4 + 3) ?_⟩
  · exact pc_at ps k 0 hk (by omega)
  · exact pc_at ps k 1 hk (by omega)
  · exact pc_at ps k 2 hk (by omega)
  · exact pc_at ps k 3 hk (by omega)
theorem prog_some {w : World} {A : Option Addr} {ps : List Ins} (h : InM w A (pc ps)) (hk : 0 < ps.length) : ∃ b off, A = some ⟨b, off, none⟩ ∧ b < w.heap.size := h.some_ (by rw [pc_length]; omega)
theorem insC_pc (bs : List Int) (l : List Nat) : insC bs l = pc (l.map fun x => decI (piece bs x)) := by simp [insC, pc, List.flatMap_map]

theorem ins_eq (x y : Ins) : (decide (x = y)) = (x.code == y.code && (x.jt == y.jt && (x.jf == y.jf && x.k == y.k))) := by
  obtain ⟨a, b, c, d⟩ := x
  obtain ⟨e, f, g, h⟩ := y
  rw [Bool.eq_iff_iff]
  simp [Ins.mk.injEq]
theorem ins_equal (n : Nat) (x y : Ins) (W : World) : (Op.equalIn (n + 3) 73 x.val y.val).run Try.prog W = .ok (decide (x = y)) W := by
  have h16 : ∀ (x y : Int) (W : World), (Op.equalIn (n + 2) 25 (.int .u16 x) (.int .u16 y)).run Try.prog W = .ok (x == y) W := fun x y W => run_equalIn_int W (n + 1) _ .u16 .u16 x y Try.underlying25
  have h8 : ∀ (x y : Int) (W : World), (Op.equalIn (n + 2) 5 (.int .u8 x) (.int .u8 y)).run Try.prog W = .ok (x == y) W := fun x y W => run_equalIn_int W (n + 1) _ .u8 .u8 x y Try.underlying5
  have h32 : ∀ (x y : Int) (W : World), (Op.equalIn (n + 2) 27 (.int .u32 x) (.int .u32 y)).run Try.prog W = .ok (x == y) W := fun x y W => run_equalIn_int W (n + 1) _ .u32 .u32 x y Try.underlying27
  have i16 : ∀ W, (isAgg 25).run Try.prog W = .ok false W := fun _ => by kernel_rfl
  have i8 : ∀ W, (isAgg 5).run Try.prog W = .ok false W := fun _ => by kernel_rfl
  have i32 : ∀ W, (isAgg 27).run Try.prog W = .ok false W := fun _ => by kernel_rfl
  rw [ins_eq]
  obtain ⟨a, b, c, d⟩ := x
  obtain ⟨e, f, g, h⟩ := y
  have hf : (Try.prog.fieldsOf 73).toList.map (fun f => (f.name, f.type, f.offset)) = [("Code", 25, 0), ("JT", 5, 1), ("JF", 5, 2), ("K", 27, 3)] := by kernel_rfl
  simp only [Ins.val, Ins.cells]
  rw [run_equalIn_struct W (n + 2) 73 _ _ (by kernel_rfl) (by kernel_rfl)]
  generalize (Try.prog.fieldsOf 73).toList = L at hf
  obtain ⟨f0, f1, f2, f3, rfl⟩ : ∃ f0 f1 f2 f3, L = [f0, f1, f2, f3] := by
    have hl : L.length = 4 := by simpa using congrArg List.length hf
    clear hf
    match L, hl with
    | [a, b, c, d], _ => exact ⟨a, b, c, d, rfl⟩
  simp only [List.map_cons, List.map_nil, List.cons.injEq, Prod.mk.injEq, and_true] at hf
  obtain ⟨⟨n0, t0, o0⟩, ⟨n1, t1, o1⟩, ⟨n2, t2, o2⟩, n3, t3, o3⟩ := hf
  simp [Op.eqFields, part, *]
  repeat' split
  all_goals simp_all
theorem ins_eql (x y : Ins) (W : World) : (binOp .eql 73 x.val y.val).run Try.prog W = .ok (.bool (decide (x = y))) W := by
  have := ins_equal 9997 x y W
  rw [Ins.val, Ins.val] at this ⊢
  rw [run_eql_struct, this]
  rfl
theorem ins_neq (x y : Ins) (W : World) : (binOp .neq 73 x.val y.val).run Try.prog W = .ok (.bool (!decide (x = y))) W := by
  have := ins_equal 9997 x y W
  rw [Ins.val, Ins.val] at this ⊢
  rw [run_neq_struct, this]
  rfl
theorem ins_guard_neq (x y : Ins) (a b : Operand) (W : World) : (eqGuard .neq 73 a b x.val y.val).run Try.prog W = .ok () W := by kernel_rfl
theorem ins_guard_eql (x y : Ins) (a b : Operand) (W : World) : (eqGuard .eql 73 a b x.val y.val).run Try.prog W = .ok () W := by kernel_rfl
end Go.Proofs.Ytlicndonhmcmmaa
