import Derived.Test.YtjlhfmedaandeaaBase
/- Rows of symbolic instructions as cells: plain words. -/
namespace Go.Proofs.Ytjlhfmedaandeaa
open Go.RowKit Go.ChangeShapes Go.WideShapes
set_option linter.unusedVariables false
set_option linter.unusedSimpArgs false

/-- A symbolic instruction. -/
structure Sy where
  code : Int
  k : Int
  th : Int
  el : Int
  deriving DecidableEq
def Sy.cells (i : Sy) : Array Value := #[.int .u16 i.code, .int .u32 i.k, .int .i64 i.th, .int .i64 i.el]
def Sy.val (i : Sy) : Value := .agg i.cells
def I64 (x : Int) : Prop := -9223372036854775808 ≤ x ∧ x < 9223372036854775808
def Sy.ok (i : Sy) : Prop := (0 ≤ i.code ∧ i.code < 65536) ∧ (0 ≤ i.k ∧ i.k < 4294967296) ∧ I64 i.th ∧ I64 i.el
def sc (ps : List Sy) : List Value := ps.flatMap fun i => i.cells.toList
def zeroS : Sy := ⟨0, 0, 0, 0⟩
theorem sc_nil : sc [] = [] := rfl
theorem sc_cons (i : Sy) (ps : List Sy) : sc (i :: ps) = i.cells.toList ++ sc ps := rfl
theorem sc_append (a b : List Sy) : sc (a ++ b) = sc a ++ sc b := by simp [sc]
theorem sc_length : ∀ ps : List Sy, (sc ps).length = 4 * ps.length
  | [] => rfl
  | i :: ps => by rw [sc_cons, List.length_append, sc_length ps]; simp [Sy.cells]; omega
theorem sc_one : ∀ ps : List Sy, ∀ u ∈ sc ps, u.oneCell' = true := fun ps u hu => by
  obtain ⟨i, _, h⟩ := List.mem_flatMap.1 hu
  simp only [Sy.cells, List.mem_cons, List.not_mem_nil, or_false] at h
  rcases h with rfl | rfl | rfl | rfl <;> rfl
theorem sc_at : ∀ (ps : List Sy) (k r : Nat) (hk : k < ps.length), r < 4 → (sc ps)[k * 4 + r]? = ps[k].cells.toList[r]?
  | i :: ps, 0, r, _, hr => by
    rw [sc_cons, List.getElem?_append_left (by simp [Sy.cells]; omega)]
    simp
  | i :: ps, k + 1, r, hk, hr => by
    have hk' : k < ps.length := by simpa using hk
    rw [sc_cons, List.getElem?_append_right (by simp [Sy.cells]; omega)]
    have e : (k + 1) * 4 + r - i.cells.toList.length = k * 4 + r := by simp [Sy.cells]; omega
    rw [e, sc_at ps k r hk' hr]
    simp
theorem sym_cells {w : World} {b off : Nat} {ps : List Sy} (h : InM w (some ⟨b, off, none⟩) (sc ps)) {k : Nat} (hk : k < ps.length) :
    w.cell? ⟨b, off + k * 4, none⟩ = some (.int .u16 ps[k].code) ∧ w.cell? ⟨b, off + k * 4 + 1, none⟩ = some (.int .u32 ps[k].k) ∧ w.cell? ⟨b, off + k * 4 + 2, none⟩ = some (.int .i64 ps[k].th) ∧ w.cell? ⟨b, off + k * 4 + 3, none⟩ = some (.int .i64 ps[k].el) := by
  refine ⟨h.cell (k := k * 4) ?_, h.cell (k := k * 4 + 1) ?_, h.cell (k := k * 4 + 2) ?_, h.cell (k := k * 4 + 3) ?_⟩
  · exact sc_at ps k 0 hk (by omega)
  · exact sc_at ps k 1 hk (by omega)
  · exact sc_at ps k 2 hk (by omega)
  · exact sc_at ps k 3 hk (by omega)
theorem sym_some {w : World} {A : Option Addr} {ps : List Sy} (h : InM w A (sc ps)) (hk : 0 < ps.length) : ∃ b off, A = some ⟨b, off, none⟩ ∧ b < w.heap.size := h.some_ (by rw [sc_length]; omega)

/-- May an instruction stand at a place of a row of some size? -/
def asksC (c : Int) : Bool := c == 21 || c == 37 || c == 53 || c == 69
def noneS (s : Sy) : Bool := s.th == 0 && s.el == 0
def thereS (at_ size n : Int) : Bool := decide (at_ < n) && decide (n < size)
def mayS (s : Sy) (at_ size : Int) : Bool :=
  if s.code == 32 then noneS s && (s.k % 4 == 0 && decide (s.k < 64))
  else if s.code == 84 || s.code == 6 then noneS s
  else if s.code == 5 then (s.k == 0 && s.el == 0) && thereS at_ size s.th
  else asksC s.code && thereS at_ size s.th && thereS at_ size s.el
def mayL (ps : List Sy) : Bool := decide (1 ≤ ps.length) && decide (ps.length ≤ 131072) && (ps.getD (ps.length - 1) zeroS).code == 6 && (List.range ps.length).all fun i => mayS (ps.getD i zeroS) i ps.length
end Go.Proofs.Ytjlhfmedaandeaa
