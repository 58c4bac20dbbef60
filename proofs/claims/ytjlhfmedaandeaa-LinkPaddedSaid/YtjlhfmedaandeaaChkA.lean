import Derived.Test.YtjlhfmedaandeaaPrg
import Derived.Test.YtjlhfmedaandeaaInsnB
import Derived.Laws.EntriesVeiled
/- What may be wrong with an instruction: the walks of check.wrongs and its functions. -/
namespace Go.Proofs.Ytjlhfmedaandeaa
open Go.RowKit Go.ChangeShapes Go.WideShapes
set_option linter.unusedVariables false
set_option linter.unusedSimpArgs false

def clsOf (c : Int) : Int := (byE c).1.cls
def wr1 (i : Ins) : Bool := !(byE i.code).2
def wr2 (i : Ins) : Bool := i.code == 32 && ((i.k % 4 != 0) || decide (64 ≤ i.k))
def wr3 (i : Ins) : Bool := (i.code == 96 || i.code == 97 || clsOf i.code == 2) && decide (16 ≤ i.k)
def wr4 (i : Ins) : Bool := i.code == 52 && i.k == 0
def wr5 (i : Ins) : Bool := (i.code == 100 || i.code == 116) && decide (31 < i.k)
def wr6 (i : Ins) (l : Int) : Bool := if i.code == 5 then decide (l ≤ i.k) else (clsOf i.code == 4 && decide (l ≤ max i.jt i.jf))

theorem wrongs1 (i : Ins) (l : Int) (W : World) : Calls Try.prog 97 #[i.val, .int .i64 l] W fun e w' => e = .returned (.bool (wr1 i)) ∧ Ext W w' := by
  have HK := Lib.hid (fun W => known_any i.code W)
  have hx := (Ext.refl W).alloc (.cells #[.int .u16 i.code, .int .u8 i.jt, .int .u8 i.jf, .int .u32 i.k] 43)
  unfold wr1
  unfold Ins.val Ins.cells
  obtain ⟨co, jt, jf, k⟩ := i
  dsimp only at *
  generalize (byE co).2 = b at *
  go_enter Try.func97, Try.ntmps97
  go_wp2_with fail
  refine (HK.out _).mono ?_
  rintro e w1 ⟨rfl, hx1⟩
  go_wp2
  go_ret
  exact ⟨rfl, hx.trans hx1⟩
theorem wrongs2 (i : Ins) (hi : i.ok) (l : Int) (W : World) : Calls Try.prog 99 #[i.val, .int .i64 l] W fun e w' => e = .returned (.bool (wr2 i)) ∧ Ext W w' := by
  have hx := (Ext.refl W).alloc (.cells #[.int .u16 i.code, .int .u8 i.jt, .int .u8 i.jf, .int .u32 i.k] 43)
  have k0 := hi.2.2.2.1
  unfold wr2
  unfold Ins.val Ins.cells
  obtain ⟨co, jt, jf, k⟩ := i
  dsimp only at *
  rcases h1 : (co == 32) with _ | _ <;> rcases h2 : (k % 4 != 0) with _ | _ <;> rcases h3 : decide (64 ≤ k) with _ | _
  all_goals
    go_enter Try.func99, Try.ntmps99
    go_wp2
    go_ret
    exact ⟨rfl, hx⟩
theorem wrongs3 (i : Ins) (l : Int) (W : World) : Calls Try.prog 100 #[i.val, .int .i64 l] W fun e w' => e = .returned (.bool (wr3 i)) ∧ Ext W w' := by
  have HK := Lib.hid (fun W => of_any i.code W)
  have hx := (Ext.refl W).alloc (.cells #[.int .u16 i.code, .int .u8 i.jt, .int .u8 i.jf, .int .u32 i.k] 43)
  have B := Blk.new W 43 #[.int .u16 i.code, .int .u8 i.jt, .int .u8 i.jf, .int .u32 i.k]
  unfold wr3 clsOf
  unfold Ins.val Ins.cells
  obtain ⟨co, jt, jf, k⟩ := i
  dsimp only at *
  generalize (byE co).1.cls = q at *
  rcases h1 : (co == 96) with _ | _ <;> rcases h2 : (co == 97) with _ | _ <;> rcases h3 : (q == 2) with _ | _ <;> rcases h4 : decide (16 ≤ k) with _ | _
  all_goals
    go_enter Try.func100, Try.ntmps100
    go_wp2_with (go_at_call 35; refine (HK.out _).mono ?_; rintro e w1 ⟨rfl, hx1⟩; have q3 := (B.ext hx1).cell 3; replace hx := hx.trans hx1)
    go_ret
    exact ⟨rfl, hx⟩
theorem wrongs4 (i : Ins) (l : Int) (W : World) : Calls Try.prog 101 #[i.val, .int .i64 l] W fun e w' => e = .returned (.bool (wr4 i)) ∧ Ext W w' := by
  have hx := (Ext.refl W).alloc (.cells #[.int .u16 i.code, .int .u8 i.jt, .int .u8 i.jf, .int .u32 i.k] 43)
  unfold wr4
  unfold Ins.val Ins.cells
  obtain ⟨co, jt, jf, k⟩ := i
  dsimp only at *
  rcases h1 : (co == 52) with _ | _ <;> rcases h2 : (k == 0) with _ | _
  all_goals
    go_enter Try.func101, Try.ntmps101
    go_wp2
    go_ret
    exact ⟨rfl, hx⟩
theorem wrongs5 (i : Ins) (l : Int) (W : World) : Calls Try.prog 102 #[i.val, .int .i64 l] W fun e w' => e = .returned (.bool (wr5 i)) ∧ Ext W w' := by
  have hx := (Ext.refl W).alloc (.cells #[.int .u16 i.code, .int .u8 i.jt, .int .u8 i.jf, .int .u32 i.k] 43)
  unfold wr5
  unfold Ins.val Ins.cells
  obtain ⟨co, jt, jf, k⟩ := i
  dsimp only at *
  rcases h1 : (co == 100) with _ | _ <;> rcases h2 : (co == 116) with _ | _ <;> rcases h3 : decide (31 < k) with _ | _
  all_goals
    go_enter Try.func102, Try.ntmps102
    go_wp2
    go_ret
    exact ⟨rfl, hx⟩
theorem wrongs6 (i : Ins) (hi : i.ok) (l : Int) (W : World) : Calls Try.prog 103 #[i.val, .int .i64 l] W fun e w' => e = .returned (.bool (wr6 i l)) ∧ Ext W w' := by
  have HK := Lib.hid (fun W => of_any i.code W)
  have hx := (Ext.refl W).alloc (.cells #[.int .u16 i.code, .int .u8 i.jt, .int .u8 i.jf, .int .u32 i.k] 43)
  have B := Blk.new W 43 #[.int .u16 i.code, .int .u8 i.jt, .int .u8 i.jf, .int .u32 i.k]
  have s1 : IntKind.i64.wrap i.k = i.k := IntWalk.i64_in _ (by have := hi.2.2.2; omega)
  have j0 := hi.2.1.1
  have j1 := hi.2.1.2
  have f0 := hi.2.2.1.1
  have f1 := hi.2.2.1.2
  have k0 := hi.2.2.2.1
  have k1 : i.k < 4294967296 := by have := hi.2.2.2.2; omega
  unfold wr6 clsOf
  unfold Ins.val Ins.cells
  obtain ⟨co, jt, jf, k⟩ := i
  dsimp only at *
  generalize (byE co).1.cls = q at *
  rcases h1 : (co == 5) with _ | _
  · rcases h3 : (q == 4) with _ | _ <;> rcases h4 : decide (l ≤ max jt jf) with _ | _
    all_goals
      go_enter Try.func103, Try.ntmps103
      go_wp2_with (go_at_call 35; refine (HK.out _).mono ?_; rintro e w1 ⟨rfl, hx1⟩; have q1 := (B.ext hx1).cell 1; have q2 := (B.ext hx1).cell 2; replace hx := hx.trans hx1)
      go_ret
      exact ⟨rfl, hx⟩
  · rcases h4 : decide (l ≤ k) with _ | _
    all_goals
      go_enter Try.func103, Try.ntmps103
      go_wp2
      go_ret
      exact ⟨rfl, hx⟩
end Go.Proofs.Ytjlhfmedaandeaa

namespace Go.Proofs.Ytjlhfmedaandeaa
open Go.RowKit Go.ChangeShapes Go.WideShapes
set_option linter.unusedVariables false
set_option linter.unusedSimpArgs false

def fn0 (f : Nat) : Value := .func (.func f) #[] #[]
def wrA : Array Value := #[.int .i64 40, fn0 97, .int .i64 41, fn0 99, .int .i64 43, fn0 100, .int .i64 44, fn0 101, .int .i64 45, fn0 102, .int .i64 42, fn0 103]
def wrV : Value := .agg wrA
set_option maxRecDepth 100000 in
theorem wrongs_any (W : World) : Calls Try.prog 90 #[] W fun e w' => e = .returned wrV ∧ Ext W w' := by
  have hs : ∀ W, (Go.sizeOf 125).run Try.prog W = .ok 12 W := fun _ => by kernel_rfl
  go_enter Try.func90, Try.ntmps90
  go_wp2
  exact bodyPost_ret (results_blk1 rfl _ _ W.heap.size 125 _ _ rfl (Blk.new_ rfl) Try.underlying125 rfl (by kernel_rfl)) rfl ⟨rfl, (Ext.refl W).alloc _⟩
/-- What is wrong, by its number. -/
def wrs (i : Ins) (l : Int) : Nat → Bool
  | 0 => wr1 i
  | 1 => wr2 i
  | 2 => wr3 i
  | 3 => wr4 i
  | 4 => wr5 i
  | 5 => wr6 i l
  | _ => false
def wrE : Nat → Int
  | 0 => 40
  | 1 => 41
  | 2 => 43
  | 3 => 44
  | 4 => 45
  | _ => 42
/-- The error of an instruction behind which l others stand. -/
def oneE (i : Ins) (l : Int) : Int :=
  if wr1 i then 40 else if wr2 i then 41 else if wr3 i then 43 else if wr4 i then 44 else if wr5 i then 45 else if wr6 i (max l 0) then 42 else 0
theorem oneE_at {i : Ins} {l : Int} (k : Nat) (hk : k < 6) (hno : ∀ j, j < k → wrs i (max l 0) j = false) (h : wrs i (max l 0) k = true) : oneE i l = wrE k := by
  have n := fun j (hj : j < k) => hno j hj
  match k, hk with
  | 0, _ => unfold oneE; simp only [show wr1 i = true from h, if_true]; rfl
  | 1, _ => unfold oneE; simp [show wr1 i = false from n 0 (by omega), show wr2 i = true from h, wrE]
  | 2, _ => unfold oneE; simp [show wr1 i = false from n 0 (by omega), show wr2 i = false from n 1 (by omega), show wr3 i = true from h, wrE]
  | 3, _ => unfold oneE; simp [show wr1 i = false from n 0 (by omega), show wr2 i = false from n 1 (by omega), show wr3 i = false from n 2 (by omega), show wr4 i = true from h, wrE]
  | 4, _ => unfold oneE; simp [show wr1 i = false from n 0 (by omega), show wr2 i = false from n 1 (by omega), show wr3 i = false from n 2 (by omega), show wr4 i = false from n 3 (by omega), show wr5 i = true from h, wrE]
  | 5, _ => unfold oneE; simp [show wr1 i = false from n 0 (by omega), show wr2 i = false from n 1 (by omega), show wr3 i = false from n 2 (by omega), show wr4 i = false from n 3 (by omega), show wr5 i = false from n 4 (by omega), show wr6 i (max l 0) = true from h, wrE]
theorem oneE_no {i : Ins} {l : Int} (n : ∀ j, j < 6 → wrs i (max l 0) j = false) : oneE i l = 0 := by
  unfold oneE
  simp [show wr1 i = false from n 0 (by omega), show wr2 i = false from n 1 (by omega), show wr3 i = false from n 2 (by omega), show wr4 i = false from n 3 (by omega), show wr5 i = false from n 4 (by omega), show wr6 i (max l 0) = false from n 5 (by omega)]
def wrF : Nat → Nat
  | 0 => 97
  | 1 => 99
  | 2 => 100
  | 3 => 101
  | 4 => 102
  | _ => 103
theorem wr_index : ∀ (k : Nat) (hk : k < 6) (W : World), (Instr.index 125 wrV (.int .i64 k)).run Try.prog W = .ok (.agg #[.int .i64 (wrE k), .func (.func (wrF k)) #[] #[]]) W
  | 0, _, W => by kernel_rfl
  | 1, _, W => by kernel_rfl
  | 2, _, W => by kernel_rfl
  | 3, _, W => by kernel_rfl
  | 4, _, W => by kernel_rfl
  | 5, _, W => by kernel_rfl

set_option maxHeartbeats 4000000 in
set_option maxRecDepth 100000 in
theorem checkOne (i : Ins) (hi : i.ok) (l : Int) (W : World) : Calls Try.prog 78 #[i.val, .int .i64 l] W fun e w' => e = .returned (.int .i64 (oneE i l)) ∧ Ext W w' := by
  have HI := Lib.hid (fun (k : Nat) (hk : k < 6) (W : World) => wr_index k hk W)
  have HE := Lib.hid (fun W : World => wrongs_any W)
  have HF := Lib.hid (fun (k : Nat) (hk : k < 6) => oneE_at (i := i) (l := l) k hk)
  have HN := Lib.hid (oneE_no (i := i) (l := l))
  have hx0 := (Ext.refl W).alloc (.cells #[.int .u16 i.code, .int .u8 i.jt, .int .u8 i.jf, .int .u32 i.k] 43)
  have B0 := Blk.new W 43 #[.int .u16 i.code, .int .u8 i.jt, .int .u8 i.jf, .int .u32 i.k]
  generalize wrV = V at *
  obtain ⟨co, jt, jf, kk⟩ := i
  generalize hR : oneE ⟨co, jt, jf, kk⟩ l = R at *
  unfold Ins.val Ins.cells
  dsimp only at hx0 B0 ⊢
  go_enter Try.func78, Try.ntmps78
  go_wp2_with fail
  refine (HE.out _).mono ?_
  rintro e w1 ⟨rfl, hx1⟩
  replace hx0 := hx0.trans hx1
  replace B0 := B0.ext hx1
  clear hx1 hR
  go_wp2_with fail
  go_loopw [8] (fun i wr => ∃ k : Nat, k ≤ 6 ∧ i = .int .i64 k ∧ (∀ j, j < k → wrs ⟨co, jt, jf, kk⟩ (max l 0) j = false) ∧ Ext W wr ∧ Blk wr W.heap.size 43 #[.int .u16 co, .int .u8 jt, .int .u8 jf, .int .u32 kk]) (fun i _ => 6 - (intOf i).toNat)
  case atStart => exact ⟨0, by decide, rfl, fun j hj => absurd hj (by omega), hx0, B0⟩
  case round =>
    clear hx0 B0
    obtain ⟨k, hk, rfl, hno, hx, B0⟩ := hrel
    by_cases h6 : k < 6
    · match k, h6 with
      | 0, _ =>
        have hidx : ∀ W, (Instr.index 125 V (.int .i64 0)).run Try.prog W = .ok (.agg #[.int .i64 40, .func (.func 97) #[] #[]]) W := fun W => HI.out 0 (by decide) W
        have Bw := Blk.new wr 124 #[.int .i64 40, .func (.func 97) #[] #[]]
        have hxa := (Ext.refl wr).alloc (.cells #[.int .i64 40, .func (.func 97) #[] #[]] 124)
        have q0 := (B0.ext hxa).cell 0
        have q1 := (B0.ext hxa).cell 1
        have q2 := (B0.ext hxa).cell 2
        have q3 := (B0.ext hxa).cell 3
        rcases hb : wrs ⟨co, jt, jf, kk⟩ (max l 0) 0 with _ | _
        · have HC := Lib.hid (fun W => wrongs1 ⟨co, jt, jf, kk⟩ (max l 0) W)
          rw [show wr1 ⟨co, jt, jf, kk⟩ = false from hb] at HC
          have hno' : ∀ j, j < 0 + 1 → wrs ⟨co, jt, jf, kk⟩ (max l 0) j = false := fun j hj => by
            rcases Nat.lt_succ_iff_lt_or_eq.1 hj with h | rfl
            · exact hno j h
            · exact hb
          have HNO := Lib.hid hno'
          clear hno hno' HF HN HI hb
          go_wp2_with fail
          refine (HC.out _).mono ?_
          rintro e w2 ⟨rfl, hx2⟩
          have B2 := (B0.ext hxa).ext hx2
          replace hx := hx.trans (hxa.trans hx2)
          clear q0 q1 q2 q3 Bw hxa hx2 B0 HC hidx
          go_wp2
          go_roundw
          case rel => exact ⟨0 + 1, by decide, rfl, HNO.out, hx, B2⟩
          case measure => simp [intOf]
        · have HC := Lib.hid (fun W => wrongs1 ⟨co, jt, jf, kk⟩ (max l 0) W)
          rw [show wr1 ⟨co, jt, jf, kk⟩ = true from hb] at HC
          have hR := HF.out 0 (by decide) hno hb
          rw [show wrE 0 = 40 from rfl] at hR
          subst hR
          clear hno HF HN HI hb
          go_wp2_with fail
          refine (HC.out _).mono ?_
          rintro e w2 ⟨rfl, hx2⟩
          have Bw2 := (Bw.ext hx2).cell 0
          replace hx := hx.trans (hxa.trans hx2)
          clear q0 q1 q2 q3 Bw hxa hx2 B0 HC hidx
          go_wp2
          go_ret
          exact ⟨rfl, hx⟩
      | 1, _ =>
        have hidx : ∀ W, (Instr.index 125 V (.int .i64 1)).run Try.prog W = .ok (.agg #[.int .i64 41, .func (.func 99) #[] #[]]) W := fun W => HI.out 1 (by decide) W
        have Bw := Blk.new wr 124 #[.int .i64 41, .func (.func 99) #[] #[]]
        have hxa := (Ext.refl wr).alloc (.cells #[.int .i64 41, .func (.func 99) #[] #[]] 124)
        have q0 := (B0.ext hxa).cell 0
        have q1 := (B0.ext hxa).cell 1
        have q2 := (B0.ext hxa).cell 2
        have q3 := (B0.ext hxa).cell 3
        rcases hb : wrs ⟨co, jt, jf, kk⟩ (max l 0) 1 with _ | _
        · have HC := Lib.hid (fun W => wrongs2 ⟨co, jt, jf, kk⟩ hi (max l 0) W)
          rw [show wr2 ⟨co, jt, jf, kk⟩ = false from hb] at HC
          have hno' : ∀ j, j < 1 + 1 → wrs ⟨co, jt, jf, kk⟩ (max l 0) j = false := fun j hj => by
            rcases Nat.lt_succ_iff_lt_or_eq.1 hj with h | rfl
            · exact hno j h
            · exact hb
          have HNO := Lib.hid hno'
          clear hno hno' HF HN HI hb
          go_wp2_with fail
          refine (HC.out _).mono ?_
          rintro e w2 ⟨rfl, hx2⟩
          have B2 := (B0.ext hxa).ext hx2
          replace hx := hx.trans (hxa.trans hx2)
          clear q0 q1 q2 q3 Bw hxa hx2 B0 HC hidx
          go_wp2
          go_roundw
          case rel => exact ⟨1 + 1, by decide, rfl, HNO.out, hx, B2⟩
          case measure => simp [intOf]
        · have HC := Lib.hid (fun W => wrongs2 ⟨co, jt, jf, kk⟩ hi (max l 0) W)
          rw [show wr2 ⟨co, jt, jf, kk⟩ = true from hb] at HC
          have hR := HF.out 1 (by decide) hno hb
          rw [show wrE 1 = 41 from rfl] at hR
          subst hR
          clear hno HF HN HI hb
          go_wp2_with fail
          refine (HC.out _).mono ?_
          rintro e w2 ⟨rfl, hx2⟩
          have Bw2 := (Bw.ext hx2).cell 0
          replace hx := hx.trans (hxa.trans hx2)
          clear q0 q1 q2 q3 Bw hxa hx2 B0 HC hidx
          go_wp2
          go_ret
          exact ⟨rfl, hx⟩
      | 2, _ =>
        have hidx : ∀ W, (Instr.index 125 V (.int .i64 2)).run Try.prog W = .ok (.agg #[.int .i64 43, .func (.func 100) #[] #[]]) W := fun W => HI.out 2 (by decide) W
        have Bw := Blk.new wr 124 #[.int .i64 43, .func (.func 100) #[] #[]]
        have hxa := (Ext.refl wr).alloc (.cells #[.int .i64 43, .func (.func 100) #[] #[]] 124)
        have q0 := (B0.ext hxa).cell 0
        have q1 := (B0.ext hxa).cell 1
        have q2 := (B0.ext hxa).cell 2
        have q3 := (B0.ext hxa).cell 3
        rcases hb : wrs ⟨co, jt, jf, kk⟩ (max l 0) 2 with _ | _
        · have HC := Lib.hid (fun W => wrongs3 ⟨co, jt, jf, kk⟩ (max l 0) W)
          rw [show wr3 ⟨co, jt, jf, kk⟩ = false from hb] at HC
          have hno' : ∀ j, j < 2 + 1 → wrs ⟨co, jt, jf, kk⟩ (max l 0) j = false := fun j hj => by
            rcases Nat.lt_succ_iff_lt_or_eq.1 hj with h | rfl
            · exact hno j h
            · exact hb
          have HNO := Lib.hid hno'
          clear hno hno' HF HN HI hb
          go_wp2_with fail
          refine (HC.out _).mono ?_
          rintro e w2 ⟨rfl, hx2⟩
          have B2 := (B0.ext hxa).ext hx2
          replace hx := hx.trans (hxa.trans hx2)
          clear q0 q1 q2 q3 Bw hxa hx2 B0 HC hidx
          go_wp2
          go_roundw
          case rel => exact ⟨2 + 1, by decide, rfl, HNO.out, hx, B2⟩
          case measure => simp [intOf]
        · have HC := Lib.hid (fun W => wrongs3 ⟨co, jt, jf, kk⟩ (max l 0) W)
          rw [show wr3 ⟨co, jt, jf, kk⟩ = true from hb] at HC
          have hR := HF.out 2 (by decide) hno hb
          rw [show wrE 2 = 43 from rfl] at hR
          subst hR
          clear hno HF HN HI hb
          go_wp2_with fail
          refine (HC.out _).mono ?_
          rintro e w2 ⟨rfl, hx2⟩
          have Bw2 := (Bw.ext hx2).cell 0
          replace hx := hx.trans (hxa.trans hx2)
          clear q0 q1 q2 q3 Bw hxa hx2 B0 HC hidx
          go_wp2
          go_ret
          exact ⟨rfl, hx⟩
      | 3, _ =>
        have hidx : ∀ W, (Instr.index 125 V (.int .i64 3)).run Try.prog W = .ok (.agg #[.int .i64 44, .func (.func 101) #[] #[]]) W := fun W => HI.out 3 (by decide) W
        have Bw := Blk.new wr 124 #[.int .i64 44, .func (.func 101) #[] #[]]
        have hxa := (Ext.refl wr).alloc (.cells #[.int .i64 44, .func (.func 101) #[] #[]] 124)
        have q0 := (B0.ext hxa).cell 0
        have q1 := (B0.ext hxa).cell 1
        have q2 := (B0.ext hxa).cell 2
        have q3 := (B0.ext hxa).cell 3
        rcases hb : wrs ⟨co, jt, jf, kk⟩ (max l 0) 3 with _ | _
        · have HC := Lib.hid (fun W => wrongs4 ⟨co, jt, jf, kk⟩ (max l 0) W)
          rw [show wr4 ⟨co, jt, jf, kk⟩ = false from hb] at HC
          have hno' : ∀ j, j < 3 + 1 → wrs ⟨co, jt, jf, kk⟩ (max l 0) j = false := fun j hj => by
            rcases Nat.lt_succ_iff_lt_or_eq.1 hj with h | rfl
            · exact hno j h
            · exact hb
          have HNO := Lib.hid hno'
          clear hno hno' HF HN HI hb
          go_wp2_with fail
          refine (HC.out _).mono ?_
          rintro e w2 ⟨rfl, hx2⟩
          have B2 := (B0.ext hxa).ext hx2
          replace hx := hx.trans (hxa.trans hx2)
          clear q0 q1 q2 q3 Bw hxa hx2 B0 HC hidx
          go_wp2
          go_roundw
          case rel => exact ⟨3 + 1, by decide, rfl, HNO.out, hx, B2⟩
          case measure => simp [intOf]
        · have HC := Lib.hid (fun W => wrongs4 ⟨co, jt, jf, kk⟩ (max l 0) W)
          rw [show wr4 ⟨co, jt, jf, kk⟩ = true from hb] at HC
          have hR := HF.out 3 (by decide) hno hb
          rw [show wrE 3 = 44 from rfl] at hR
          subst hR
          clear hno HF HN HI hb
          go_wp2_with fail
          refine (HC.out _).mono ?_
          rintro e w2 ⟨rfl, hx2⟩
          have Bw2 := (Bw.ext hx2).cell 0
          replace hx := hx.trans (hxa.trans hx2)
          clear q0 q1 q2 q3 Bw hxa hx2 B0 HC hidx
          go_wp2
          go_ret
          exact ⟨rfl, hx⟩
      | 4, _ =>
        have hidx : ∀ W, (Instr.index 125 V (.int .i64 4)).run Try.prog W = .ok (.agg #[.int .i64 45, .func (.func 102) #[] #[]]) W := fun W => HI.out 4 (by decide) W
        have Bw := Blk.new wr 124 #[.int .i64 45, .func (.func 102) #[] #[]]
        have hxa := (Ext.refl wr).alloc (.cells #[.int .i64 45, .func (.func 102) #[] #[]] 124)
        have q0 := (B0.ext hxa).cell 0
        have q1 := (B0.ext hxa).cell 1
        have q2 := (B0.ext hxa).cell 2
        have q3 := (B0.ext hxa).cell 3
        rcases hb : wrs ⟨co, jt, jf, kk⟩ (max l 0) 4 with _ | _
        · have HC := Lib.hid (fun W => wrongs5 ⟨co, jt, jf, kk⟩ (max l 0) W)
          rw [show wr5 ⟨co, jt, jf, kk⟩ = false from hb] at HC
          have hno' : ∀ j, j < 4 + 1 → wrs ⟨co, jt, jf, kk⟩ (max l 0) j = false := fun j hj => by
            rcases Nat.lt_succ_iff_lt_or_eq.1 hj with h | rfl
            · exact hno j h
            · exact hb
          have HNO := Lib.hid hno'
          clear hno hno' HF HN HI hb
          go_wp2_with fail
          refine (HC.out _).mono ?_
          rintro e w2 ⟨rfl, hx2⟩
          have B2 := (B0.ext hxa).ext hx2
          replace hx := hx.trans (hxa.trans hx2)
          clear q0 q1 q2 q3 Bw hxa hx2 B0 HC hidx
          go_wp2
          go_roundw
          case rel => exact ⟨4 + 1, by decide, rfl, HNO.out, hx, B2⟩
          case measure => simp [intOf]
        · have HC := Lib.hid (fun W => wrongs5 ⟨co, jt, jf, kk⟩ (max l 0) W)
          rw [show wr5 ⟨co, jt, jf, kk⟩ = true from hb] at HC
          have hR := HF.out 4 (by decide) hno hb
          rw [show wrE 4 = 45 from rfl] at hR
          subst hR
          clear hno HF HN HI hb
          go_wp2_with fail
          refine (HC.out _).mono ?_
          rintro e w2 ⟨rfl, hx2⟩
          have Bw2 := (Bw.ext hx2).cell 0
          replace hx := hx.trans (hxa.trans hx2)
          clear q0 q1 q2 q3 Bw hxa hx2 B0 HC hidx
          go_wp2
          go_ret
          exact ⟨rfl, hx⟩
      | 5, _ =>
        have hidx : ∀ W, (Instr.index 125 V (.int .i64 5)).run Try.prog W = .ok (.agg #[.int .i64 42, .func (.func 103) #[] #[]]) W := fun W => HI.out 5 (by decide) W
        have Bw := Blk.new wr 124 #[.int .i64 42, .func (.func 103) #[] #[]]
        have hxa := (Ext.refl wr).alloc (.cells #[.int .i64 42, .func (.func 103) #[] #[]] 124)
        have q0 := (B0.ext hxa).cell 0
        have q1 := (B0.ext hxa).cell 1
        have q2 := (B0.ext hxa).cell 2
        have q3 := (B0.ext hxa).cell 3
        rcases hb : wrs ⟨co, jt, jf, kk⟩ (max l 0) 5 with _ | _
        · have HC := Lib.hid (fun W => wrongs6 ⟨co, jt, jf, kk⟩ hi (max l 0) W)
          rw [show wr6 ⟨co, jt, jf, kk⟩ (max l 0) = false from hb] at HC
          have hno' : ∀ j, j < 5 + 1 → wrs ⟨co, jt, jf, kk⟩ (max l 0) j = false := fun j hj => by
            rcases Nat.lt_succ_iff_lt_or_eq.1 hj with h | rfl
            · exact hno j h
            · exact hb
          have HNO := Lib.hid hno'
          clear hno hno' HF HN HI hb
          go_wp2_with fail
          refine (HC.out _).mono ?_
          rintro e w2 ⟨rfl, hx2⟩
          have B2 := (B0.ext hxa).ext hx2
          replace hx := hx.trans (hxa.trans hx2)
          clear q0 q1 q2 q3 Bw hxa hx2 B0 HC hidx
          go_wp2
          go_roundw
          case rel => exact ⟨5 + 1, by decide, rfl, HNO.out, hx, B2⟩
          case measure => simp [intOf]
        · have HC := Lib.hid (fun W => wrongs6 ⟨co, jt, jf, kk⟩ hi (max l 0) W)
          rw [show wr6 ⟨co, jt, jf, kk⟩ (max l 0) = true from hb] at HC
          have hR := HF.out 5 (by decide) hno hb
          rw [show wrE 5 = 42 from rfl] at hR
          subst hR
          clear hno HF HN HI hb
          go_wp2_with fail
          refine (HC.out _).mono ?_
          rintro e w2 ⟨rfl, hx2⟩
          have Bw2 := (Bw.ext hx2).cell 0
          replace hx := hx.trans (hxa.trans hx2)
          clear q0 q1 q2 q3 Bw hxa hx2 B0 HC hidx
          go_wp2
          go_ret
          exact ⟨rfl, hx⟩
    · obtain rfl : k = 6 := by omega
      have hR := HN.out hno
      subst hR
      clear hno HF HN HI HE
      go_wp2_with fail
      go_ret
      exact ⟨rfl, hx⟩
end Go.Proofs.Ytjlhfmedaandeaa
