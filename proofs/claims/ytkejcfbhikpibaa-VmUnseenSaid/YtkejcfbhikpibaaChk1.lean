import Derived.Test.YtkejcfbhikpibaaPrg
import Derived.Test.YtkejcfbhikpibaaInsnB
import Derived.Laws.EntriesVeiled
/- What may be wrong with an instruction: the walks of check.wrongs and its functions. -/
namespace Go.Proofs.Ytkejcfbhikpibaa
open Go.RowKit Go.ChangeShapes Go.WideShapes
set_option linter.unusedVariables false
set_option linter.unusedSimpArgs false

def clsOf (c : Int) : Int := (byE c).1.cls
def wr1 (i : Ins) : Bool := !(byE i.code).2
def wr2 (i : Ins) : Bool := i.code == 32 && ((i.k % 4 != 0) || decide (64 ≤ i.k))
def wr3 (i : Ins) : Bool := (i.code == 96 || i.code == 97 || clsOf i.code == 2) && decide (16 ≤ i.k)
def wr4 (i : Ins) : Bool := i.code == 52 && i.k == 0
def wr5 (i : Ins) : Bool := (i.code == 100 || i.code == 116) && decide (31 < i.k)
def wr6 (i : Ins) (l : Int) : Bool := if i.code == 5 then decide (l ≤ i.k) else (clsOf i.code == 4 && decide (l ≤ max i.jt i.jf))

theorem wrongs1 (i : Ins) (l : Int) (W : World) : Calls Try.prog 84 #[i.val, .int .i64 l] W fun e w' => e = .returned (.bool (wr1 i)) ∧ Ext W w' := by
  have HK := Lib.hid (fun W => known_any i.code W)
  have hx := (Ext.refl W).alloc (.cells #[.int .u16 i.code, .int .u8 i.jt, .int .u8 i.jf, .int .u32 i.k] 32)
  unfold wr1
  unfold Ins.val Ins.cells
  obtain ⟨co, jt, jf, k⟩ := i
  dsimp only at *
  generalize (byE co).2 = b at *
  go_enter Try.func84, Try.ntmps84
  go_wp2_with fail
  refine (HK.out _).mono ?_
  rintro e w1 ⟨rfl, hx1⟩
  go_wp2
  go_ret
  exact ⟨rfl, hx.trans hx1⟩
theorem wrongs2 (i : Ins) (hi : i.ok) (l : Int) (W : World) : Calls Try.prog 86 #[i.val, .int .i64 l] W fun e w' => e = .returned (.bool (wr2 i)) ∧ Ext W w' := by
  have hx := (Ext.refl W).alloc (.cells #[.int .u16 i.code, .int .u8 i.jt, .int .u8 i.jf, .int .u32 i.k] 32)
  have k0 := hi.2.2.2.1
  unfold wr2
  unfold Ins.val Ins.cells
  obtain ⟨co, jt, jf, k⟩ := i
  dsimp only at *
  rcases h1 : (co == 32) with _ | _ <;> rcases h2 : (k % 4 != 0) with _ | _ <;> rcases h3 : decide (64 ≤ k) with _ | _
  all_goals
    go_enter Try.func86, Try.ntmps86
    go_wp2
    go_ret
    exact ⟨rfl, hx⟩
theorem wrongs3 (i : Ins) (l : Int) (W : World) : Calls Try.prog 87 #[i.val, .int .i64 l] W fun e w' => e = .returned (.bool (wr3 i)) ∧ Ext W w' := by
  have HK := Lib.hid (fun W => of_any i.code W)
  have hx := (Ext.refl W).alloc (.cells #[.int .u16 i.code, .int .u8 i.jt, .int .u8 i.jf, .int .u32 i.k] 32)
  have B := Blk.new W 32 #[.int .u16 i.code, .int .u8 i.jt, .int .u8 i.jf, .int .u32 i.k]
  unfold wr3 clsOf
  unfold Ins.val Ins.cells
  obtain ⟨co, jt, jf, k⟩ := i
  dsimp only at *
  generalize (byE co).1.cls = q at *
  rcases h1 : (co == 96) with _ | _ <;> rcases h2 : (co == 97) with _ | _ <;> rcases h3 : (q == 2) with _ | _ <;> rcases h4 : decide (16 ≤ k) with _ | _
  all_goals
    go_enter Try.func87, Try.ntmps87
    go_wp2_with (go_at_call 50; refine (HK.out _).mono ?_; rintro e w1 ⟨rfl, hx1⟩; have q3 := (B.ext hx1).cell 3; replace hx := hx.trans hx1)
    go_ret
    exact ⟨rfl, hx⟩
theorem wrongs4 (i : Ins) (l : Int) (W : World) : Calls Try.prog 88 #[i.val, .int .i64 l] W fun e w' => e = .returned (.bool (wr4 i)) ∧ Ext W w' := by
  have hx := (Ext.refl W).alloc (.cells #[.int .u16 i.code, .int .u8 i.jt, .int .u8 i.jf, .int .u32 i.k] 32)
  unfold wr4
  unfold Ins.val Ins.cells
  obtain ⟨co, jt, jf, k⟩ := i
  dsimp only at *
  rcases h1 : (co == 52) with _ | _ <;> rcases h2 : (k == 0) with _ | _
  all_goals
    go_enter Try.func88, Try.ntmps88
    go_wp2
    go_ret
    exact ⟨rfl, hx⟩
theorem wrongs5 (i : Ins) (l : Int) (W : World) : Calls Try.prog 89 #[i.val, .int .i64 l] W fun e w' => e = .returned (.bool (wr5 i)) ∧ Ext W w' := by
  have hx := (Ext.refl W).alloc (.cells #[.int .u16 i.code, .int .u8 i.jt, .int .u8 i.jf, .int .u32 i.k] 32)
  unfold wr5
  unfold Ins.val Ins.cells
  obtain ⟨co, jt, jf, k⟩ := i
  dsimp only at *
  rcases h1 : (co == 100) with _ | _ <;> rcases h2 : (co == 116) with _ | _ <;> rcases h3 : decide (31 < k) with _ | _
  all_goals
    go_enter Try.func89, Try.ntmps89
    go_wp2
    go_ret
    exact ⟨rfl, hx⟩
theorem wrongs6 (i : Ins) (hi : i.ok) (l : Int) (W : World) : Calls Try.prog 90 #[i.val, .int .i64 l] W fun e w' => e = .returned (.bool (wr6 i l)) ∧ Ext W w' := by
  have HK := Lib.hid (fun W => of_any i.code W)
  have hx := (Ext.refl W).alloc (.cells #[.int .u16 i.code, .int .u8 i.jt, .int .u8 i.jf, .int .u32 i.k] 32)
  have B := Blk.new W 32 #[.int .u16 i.code, .int .u8 i.jt, .int .u8 i.jf, .int .u32 i.k]
  have s1 : IntKind.i64.wrap i.k = i.k := IntWalk.i64_in _ (by have := hi.2.2.2; omega)
  have j0 := hi.2.1.1
  have j1 := hi.2.1.2
  have f0 := hi.2.2.1.1
  have f1 := hi.2.2.1.2
  have k0 := hi.2.2.2.1
  have k1 : i.k < 4294967296 := by have := hi.2.2.2.2; omega
  unfold wr6 clsOf
  unfold Ins.val Ins.cells
  obtain ⟨co, jt, jf, k⟩ := i
  dsimp only at *
  generalize (byE co).1.cls = q at *
  rcases h1 : (co == 5) with _ | _
  · rcases h3 : (q == 4) with _ | _ <;> rcases h4 : decide (l ≤ max jt jf) with _ | _
    all_goals
      go_enter Try.func90, Try.ntmps90
      go_wp2_with (go_at_call 50; refine (HK.out _).mono ?_; rintro e w1 ⟨rfl, hx1⟩; have q1 := (B.ext hx1).cell 1; have q2 := (B.ext hx1).cell 2; replace hx := hx.trans hx1)
      go_ret
      exact ⟨rfl, hx⟩
  · rcases h4 : decide (l ≤ k) with _ | _
    all_goals
      go_enter Try.func90, Try.ntmps90
      go_wp2
      go_ret
      exact ⟨rfl, hx⟩
end Go.Proofs.Ytkejcfbhikpibaa
