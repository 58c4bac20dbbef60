import Derived.Test.YtjlhfmedaandeaaBase
import Derived.Test.YtjlhfmedaandeaaWords
import Derived.RangeFuncNested
import Derived.RangeFuncBound
import Derived.RangeFuncCalls
import Derived.RangeFuncLeaves
import Derived.Shelf.Abstract
import Derived.Shelf.RegionOpen
import Derived.OwnWalkIn
import Derived.TacticsInMore
import Derived.LoopNIn
import Derived.LoopIn
import Derived.Sort.QuietTacIn
import Derived.Maps.AppendAt
namespace Go.Proofs.Ytjlhfmedaandeaa
open Go.RowKit Go.ChangeShapes Go.WideShapes
set_option linter.unusedVariables false
attribute [local go_sem] Oper.semAt_some

/-- What lies in the cells s and t stays. -/
def KpB (s t : Nat) (W W' : World) : Prop := ∀ p v, (p = s ∨ p = t) → W.cell? ⟨p, 0, none⟩ = some v → W'.cell? ⟨p, 0, none⟩ = some v
theorem grown_drew (W : World) : W.grownBy W.drew none := ⟨rfl, rfl, rfl, Nat.le_refl _, fun _ _ _ => rfl⟩

end Go.Proofs.Ytjlhfmedaandeaa

namespace Go.Proofs.Ytjlhfmedaandeaa
open Go.RowKit Go.ChangeShapes Go.WideShapes
set_option linter.unusedVariables false
attribute [local go_sem] Oper.semAt_some

/-- The address of byte k. -/
def adv (A : Option Addr) (k : Nat) : Option Addr := A.map fun a => ⟨a.block, a.off + k, none⟩
end Go.Proofs.Ytjlhfmedaandeaa

namespace Go.Proofs.Ytjlhfmedaandeaa
open Go.RowKit Go.ChangeShapes Go.WideShapes
set_option linter.unusedVariables false

/-- An instruction. -/
structure Ins where
  code : Int
  jt : Int
  jf : Int
  k : Int
  deriving DecidableEq
def Ins.cells (i : Ins) : Array Value := #[.int .u16 i.code, .int .u8 i.jt, .int .u8 i.jf, .int .u32 i.k]
def Ins.val (i : Ins) : Value := .agg i.cells
def decI (ys : List Int) : Ins := ⟨getB ys 0 2, ys.getD 2 0, ys.getD 3 0, getB ys 4 4⟩
end Go.Proofs.Ytjlhfmedaandeaa

namespace Go.Proofs.Ytjlhfmedaandeaa
open Go.RowKit Go.ChangeShapes Go.WideShapes
set_option linter.unusedVariables false
attribute [local go_sem] Oper.semAt_some

theorem KpB.trans {s t : Nat} {A B C : World} (h : KpB s t A B) (k : KpB s t B C) : KpB s t A C := fun p v hp hv => k p v hp (h p v hp hv)
/-- Piece x of the bytes. -/
def piece (bs : List Int) (x : Nat) : List Int := (bs.drop (8 * x)).take 8
def insC (bs : List Int) (pre : List Nat) : List Value := pre.flatMap fun x => (decI (piece bs x)).cells.toList
theorem insC_snoc (bs : List Int) (pre : List Nat) (x : Nat) : insC bs (pre ++ [x]) = insC bs pre ++ (decI (piece bs x)).cells.toList := by simp [insC]
theorem info_ins : (Try.prog.info? 43).map (fun i => (i.zero, i.size, i.bytes)) = some (some (.agg #[.int .u16 0, .int .u8 0, .int .u8 0, .int .u32 0]), 4, 8) := by kernel_rfl

theorem cell_of_heap {X Y : World} {p : Nat} (h : Y.heap[p]? = X.heap[p]?) : Y.cell? ⟨p, 0, none⟩ = X.cell? ⟨p, 0, none⟩ := by simp only [World.cell?, h]
end Go.Proofs.Ytjlhfmedaandeaa

namespace Go.Proofs.Ytjlhfmedaandeaa
open Go.RowKit Go.ChangeShapes Go.WideShapes
set_option linter.unusedVariables false

end Go.Proofs.Ytjlhfmedaandeaa

namespace Go.Proofs.Ytjlhfmedaandeaa
open Go.RowKit Go.ChangeShapes Go.WideShapes
set_option linter.unusedVariables false
set_option linter.unusedSimpArgs false
/-- An instruction whose numbers fit. -/
def Ins.ok (i : Ins) : Prop := (0 ≤ i.code ∧ i.code < 256 ^ 2) ∧ (0 ≤ i.jt ∧ i.jt < 256) ∧ (0 ≤ i.jf ∧ i.jf < 256) ∧ (0 ≤ i.k ∧ i.k < 256 ^ 4)
def Ins.bytes (i : Ins) : List Int := leB 2 i.code ++ [i.jt, i.jf] ++ leB 4 i.k
theorem own_lower {w : World} {base base' : Nat} {e : TypeId} {size n : Nat} {v : Value} {xs : List Value} (h : w.ownsRow base e size v n xs) (hb : base' ≤ base) : w.ownsRow base' e size v n xs := by
  refine ⟨h.1, ?_⟩
  rcases h.2 with h | ⟨g, cap, cur, h1, h2, h3⟩
  · exact .inl h
  · exact .inr ⟨g, cap, cur, h1, Nat.le_trans hb h2, h3⟩
/-- A slice that owns its row. -/
def VP.own (base : Nat) (t : TypeId) (size n : Nat) (xs : List Value) : VP := ⟨fun v w => ∃ A c, v = .slice A n c ∧ w.ownsRow base t size (.slice A n c) n xs, fun _ _ _ ⟨A, c, h, k⟩ e => ⟨A, c, h, own_ext k e⟩⟩
def VP.cat3 (n m k : Nat) (xs ys zs : List Int) : VP := ⟨fun v w => ∃ L A c B d D q, v = .slice L 3 3 ∧ InM w L [.slice A n c, .slice B m d, .slice D k q] ∧ InM w A (nums .u8 xs) ∧ InM w B (nums .u8 ys) ∧ InM w D (nums .u8 zs),
  fun _ _ _ ⟨L, A, c, B, d, D, q, h, h0, h1, h2, h3⟩ e => ⟨L, A, c, B, d, D, q, h, h0.ext e, h1.ext e, h2.ext e, h3.ext e⟩⟩
end Go.Proofs.Ytjlhfmedaandeaa
