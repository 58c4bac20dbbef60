import Derived.Test.YtplpffcolcjboaaChk2
namespace Go.Proofs.Ytplpffcolcjboaa
open Go.RowKit Go.ChangeShapes Go.WideShapes
set_option linter.unusedVariables false
set_option linter.unusedSimpArgs false

def rTail (q jt jf l : Int) : Int := if q == 4 && (decide (l ≤ jt) || decide (l ≤ jf)) then 42 else 0
/-- The document's answer, by the tests of the name. -/
def rOne (t1 t2 t3 t4 t5 t6 t7 t8 t9 : Bool) (q jt jf k l : Int) : Int :=
  if t1 then (if decide (60 < k) || decide (0 < k % 4) then 41 else rTail q jt jf l)
  else if t2 || t3 || t4 || t5 then (if decide (15 < k) then 43 else rTail q jt jf l)
  else if t6 then (if k == 0 then 44 else rTail q jt jf l)
  else if t7 || t8 then (if decide (31 < k) then 45 else rTail q jt jf l)
  else if t9 then (if decide (l ≤ k) then 42 else 0)
  else rTail q jt jf l
def nameIs (s : ByteArray) (t : List UInt8) : Bool := s.toList == t
def refOneE (i : Ins) (l : Int) : Int :=
  let e := (byO i.code).1
  if e.name.toList.isEmpty then 40 else
  rOne (nameIs e.name [108, 100, 97, 98, 115]) (nameIs e.name [108, 100, 109]) (nameIs e.name [108, 100, 120, 109]) (nameIs e.name [115, 116]) (nameIs e.name [115, 116, 120]) (nameIs e.name [100, 105, 118]) (nameIs e.name [108, 115, 104]) (nameIs e.name [114, 115, 104]) (nameIs e.name [106, 97]) e.cls i.jt i.jf i.k (max l 0)

set_option maxHeartbeats 4000000 in
set_option maxRecDepth 100000 in
theorem refOne_ldabs (co jt jf k l c q : Int) (s : ByteArray) (H1 : Hid (∀ W : World, Calls Try.prog 45 #[.int .u16 co] W fun e w' => e = .returned (.agg #[.int .u16 c, .string s, .int .u8 q]) ∧ Ext W w'))
    (j0 : 0 ≤ jt) (j1 : jt < 256) (f0 : 0 ≤ jf) (f1 : jf < 256) (k0 : 0 ≤ k) (k1 : k < 4294967296) (hne : s.toList.isEmpty = false) (h1 : (s.toList == [108, 100, 97, 98, 115]) = true) (h2 : (s.toList == [108, 100, 109]) = false) (h3 : (s.toList == [108, 100, 120, 109]) = false) (h4 : (s.toList == [115, 116]) = false) (h5 : (s.toList == [115, 116, 120]) = false) (h6 : (s.toList == [100, 105, 118]) = false) (h7 : (s.toList == [108, 115, 104]) = false) (h8 : (s.toList == [114, 115, 104]) = false) (h9 : (s.toList == [106, 97]) = false) (hq : (q == 4) = false) (W : World) :
    Calls Try.prog 22 #[.agg #[.int .u16 co, .int .u8 jt, .int .u8 jf, .int .u32 k], .int .i64 l] W fun e w' => e = .returned (.int .i64 (rOne true false false false false false false false false q jt jf k (max l 0))) ∧ Ext W w' := by
  have hx := (Ext.refl W).alloc (.cells #[.int .u16 co, .int .u8 jt, .int .u8 jf, .int .u32 k] 25)
  have B := Blk.new W 25 #[.int .u16 co, .int .u8 jt, .int .u8 jf, .int .u32 k]
  by_cases hl : l < 0
  · rw [show max l 0 = 0 from by omega]
    go_enter Try.func22, Try.ntmps22
    go_wp2_with fail
    refine (H1.out _).mono ?_
    rintro e w1 ⟨rfl, hx1⟩
    have hx2 := (hx.trans hx1).alloc (.cells #[.int .u16 c, .string s, .int .u8 q] 72)
    have B2 := (B.ext hx1).alloc (.cells #[.int .u16 c, .string s, .int .u8 q] 72)
    have q1 := B2.cell 1
    have q2 := B2.cell 2
    have q3 := B2.cell 3
    clear B B2 hx1 hx
    go_wp2
    all_goals
      go_ret
      exact ⟨ret_int (by simp [rOne, rTail, *]), hx2⟩
  · rw [show max l 0 = l from by omega]
    go_enter Try.func22, Try.ntmps22
    go_wp2_with fail
    refine (H1.out _).mono ?_
    rintro e w1 ⟨rfl, hx1⟩
    have hx2 := (hx.trans hx1).alloc (.cells #[.int .u16 c, .string s, .int .u8 q] 72)
    have B2 := (B.ext hx1).alloc (.cells #[.int .u16 c, .string s, .int .u8 q] 72)
    have q1 := B2.cell 1
    have q2 := B2.cell 2
    have q3 := B2.cell 3
    clear B B2 hx1 hx
    go_wp2
    all_goals
      go_ret
      exact ⟨ret_int (by simp [rOne, rTail, *]), hx2⟩
set_option maxHeartbeats 4000000 in
set_option maxRecDepth 100000 in
theorem refOne_ldm (co jt jf k l c q : Int) (s : ByteArray) (H1 : Hid (∀ W : World, Calls Try.prog 45 #[.int .u16 co] W fun e w' => e = .returned (.agg #[.int .u16 c, .string s, .int .u8 q]) ∧ Ext W w'))
    (j0 : 0 ≤ jt) (j1 : jt < 256) (f0 : 0 ≤ jf) (f1 : jf < 256) (k0 : 0 ≤ k) (k1 : k < 4294967296) (hne : s.toList.isEmpty = false) (h1 : (s.toList == [108, 100, 97, 98, 115]) = false) (h2 : (s.toList == [108, 100, 109]) = true) (h3 : (s.toList == [108, 100, 120, 109]) = false) (h4 : (s.toList == [115, 116]) = false) (h5 : (s.toList == [115, 116, 120]) = false) (h6 : (s.toList == [100, 105, 118]) = false) (h7 : (s.toList == [108, 115, 104]) = false) (h8 : (s.toList == [114, 115, 104]) = false) (h9 : (s.toList == [106, 97]) = false) (hq : (q == 4) = false) (W : World) :
    Calls Try.prog 22 #[.agg #[.int .u16 co, .int .u8 jt, .int .u8 jf, .int .u32 k], .int .i64 l] W fun e w' => e = .returned (.int .i64 (rOne false true false false false false false false false q jt jf k (max l 0))) ∧ Ext W w' := by
  have hx := (Ext.refl W).alloc (.cells #[.int .u16 co, .int .u8 jt, .int .u8 jf, .int .u32 k] 25)
  have B := Blk.new W 25 #[.int .u16 co, .int .u8 jt, .int .u8 jf, .int .u32 k]
  by_cases hl : l < 0
  · rw [show max l 0 = 0 from by omega]
    go_enter Try.func22, Try.ntmps22
    go_wp2_with fail
    refine (H1.out _).mono ?_
    rintro e w1 ⟨rfl, hx1⟩
    have hx2 := (hx.trans hx1).alloc (.cells #[.int .u16 c, .string s, .int .u8 q] 72)
    have B2 := (B.ext hx1).alloc (.cells #[.int .u16 c, .string s, .int .u8 q] 72)
    have q1 := B2.cell 1
    have q2 := B2.cell 2
    have q3 := B2.cell 3
    clear B B2 hx1 hx
    go_wp2
    all_goals
      go_ret
      exact ⟨ret_int (by simp [rOne, rTail, *]), hx2⟩
  · rw [show max l 0 = l from by omega]
    go_enter Try.func22, Try.ntmps22
    go_wp2_with fail
    refine (H1.out _).mono ?_
    rintro e w1 ⟨rfl, hx1⟩
    have hx2 := (hx.trans hx1).alloc (.cells #[.int .u16 c, .string s, .int .u8 q] 72)
    have B2 := (B.ext hx1).alloc (.cells #[.int .u16 c, .string s, .int .u8 q] 72)
    have q1 := B2.cell 1
    have q2 := B2.cell 2
    have q3 := B2.cell 3
    clear B B2 hx1 hx
    go_wp2
    all_goals
      go_ret
      exact ⟨ret_int (by simp [rOne, rTail, *]), hx2⟩
set_option maxHeartbeats 4000000 in
set_option maxRecDepth 100000 in
theorem refOne_ldxm (co jt jf k l c q : Int) (s : ByteArray) (H1 : Hid (∀ W : World, Calls Try.prog 45 #[.int .u16 co] W fun e w' => e = .returned (.agg #[.int .u16 c, .string s, .int .u8 q]) ∧ Ext W w'))
    (j0 : 0 ≤ jt) (j1 : jt < 256) (f0 : 0 ≤ jf) (f1 : jf < 256) (k0 : 0 ≤ k) (k1 : k < 4294967296) (hne : s.toList.isEmpty = false) (h1 : (s.toList == [108, 100, 97, 98, 115]) = false) (h2 : (s.toList == [108, 100, 109]) = false) (h3 : (s.toList == [108, 100, 120, 109]) = true) (h4 : (s.toList == [115, 116]) = false) (h5 : (s.toList == [115, 116, 120]) = false) (h6 : (s.toList == [100, 105, 118]) = false) (h7 : (s.toList == [108, 115, 104]) = false) (h8 : (s.toList == [114, 115, 104]) = false) (h9 : (s.toList == [106, 97]) = false) (hq : (q == 4) = false) (W : World) :
    Calls Try.prog 22 #[.agg #[.int .u16 co, .int .u8 jt, .int .u8 jf, .int .u32 k], .int .i64 l] W fun e w' => e = .returned (.int .i64 (rOne false false true false false false false false false q jt jf k (max l 0))) ∧ Ext W w' := by
  have hx := (Ext.refl W).alloc (.cells #[.int .u16 co, .int .u8 jt, .int .u8 jf, .int .u32 k] 25)
  have B := Blk.new W 25 #[.int .u16 co, .int .u8 jt, .int .u8 jf, .int .u32 k]
  by_cases hl : l < 0
  · rw [show max l 0 = 0 from by omega]
    go_enter Try.func22, Try.ntmps22
    go_wp2_with fail
    refine (H1.out _).mono ?_
    rintro e w1 ⟨rfl, hx1⟩
    have hx2 := (hx.trans hx1).alloc (.cells #[.int .u16 c, .string s, .int .u8 q] 72)
    have B2 := (B.ext hx1).alloc (.cells #[.int .u16 c, .string s, .int .u8 q] 72)
    have q1 := B2.cell 1
    have q2 := B2.cell 2
    have q3 := B2.cell 3
    clear B B2 hx1 hx
    go_wp2
    all_goals
      go_ret
      exact ⟨ret_int (by simp [rOne, rTail, *]), hx2⟩
  · rw [show max l 0 = l from by omega]
    go_enter Try.func22, Try.ntmps22
    go_wp2_with fail
    refine (H1.out _).mono ?_
    rintro e w1 ⟨rfl, hx1⟩
    have hx2 := (hx.trans hx1).alloc (.cells #[.int .u16 c, .string s, .int .u8 q] 72)
    have B2 := (B.ext hx1).alloc (.cells #[.int .u16 c, .string s, .int .u8 q] 72)
    have q1 := B2.cell 1
    have q2 := B2.cell 2
    have q3 := B2.cell 3
    clear B B2 hx1 hx
    go_wp2
    all_goals
      go_ret
      exact ⟨ret_int (by simp [rOne, rTail, *]), hx2⟩
set_option maxHeartbeats 4000000 in
set_option maxRecDepth 100000 in
theorem refOne_st (co jt jf k l c q : Int) (s : ByteArray) (H1 : Hid (∀ W : World, Calls Try.prog 45 #[.int .u16 co] W fun e w' => e = .returned (.agg #[.int .u16 c, .string s, .int .u8 q]) ∧ Ext W w'))
    (j0 : 0 ≤ jt) (j1 : jt < 256) (f0 : 0 ≤ jf) (f1 : jf < 256) (k0 : 0 ≤ k) (k1 : k < 4294967296) (hne : s.toList.isEmpty = false) (h1 : (s.toList == [108, 100, 97, 98, 115]) = false) (h2 : (s.toList == [108, 100, 109]) = false) (h3 : (s.toList == [108, 100, 120, 109]) = false) (h4 : (s.toList == [115, 116]) = true) (h5 : (s.toList == [115, 116, 120]) = false) (h6 : (s.toList == [100, 105, 118]) = false) (h7 : (s.toList == [108, 115, 104]) = false) (h8 : (s.toList == [114, 115, 104]) = false) (h9 : (s.toList == [106, 97]) = false) (hq : (q == 4) = false) (W : World) :
    Calls Try.prog 22 #[.agg #[.int .u16 co, .int .u8 jt, .int .u8 jf, .int .u32 k], .int .i64 l] W fun e w' => e = .returned (.int .i64 (rOne false false false true false false false false false q jt jf k (max l 0))) ∧ Ext W w' := by
  have hx := (Ext.refl W).alloc (.cells #[.int .u16 co, .int .u8 jt, .int .u8 jf, .int .u32 k] 25)
  have B := Blk.new W 25 #[.int .u16 co, .int .u8 jt, .int .u8 jf, .int .u32 k]
  by_cases hl : l < 0
  · rw [show max l 0 = 0 from by omega]
    go_enter Try.func22, Try.ntmps22
    go_wp2_with fail
    refine (H1.out _).mono ?_
    rintro e w1 ⟨rfl, hx1⟩
    have hx2 := (hx.trans hx1).alloc (.cells #[.int .u16 c, .string s, .int .u8 q] 72)
    have B2 := (B.ext hx1).alloc (.cells #[.int .u16 c, .string s, .int .u8 q] 72)
    have q1 := B2.cell 1
    have q2 := B2.cell 2
    have q3 := B2.cell 3
    clear B B2 hx1 hx
    go_wp2
    all_goals
      go_ret
      exact ⟨ret_int (by simp [rOne, rTail, *]), hx2⟩
  · rw [show max l 0 = l from by omega]
    go_enter Try.func22, Try.ntmps22
    go_wp2_with fail
    refine (H1.out _).mono ?_
    rintro e w1 ⟨rfl, hx1⟩
    have hx2 := (hx.trans hx1).alloc (.cells #[.int .u16 c, .string s, .int .u8 q] 72)
    have B2 := (B.ext hx1).alloc (.cells #[.int .u16 c, .string s, .int .u8 q] 72)
    have q1 := B2.cell 1
    have q2 := B2.cell 2
    have q3 := B2.cell 3
    clear B B2 hx1 hx
    go_wp2
    all_goals
      go_ret
      exact ⟨ret_int (by simp [rOne, rTail, *]), hx2⟩
set_option maxHeartbeats 4000000 in
set_option maxRecDepth 100000 in
theorem refOne_stx (co jt jf k l c q : Int) (s : ByteArray) (H1 : Hid (∀ W : World, Calls Try.prog 45 #[.int .u16 co] W fun e w' => e = .returned (.agg #[.int .u16 c, .string s, .int .u8 q]) ∧ Ext W w'))
    (j0 : 0 ≤ jt) (j1 : jt < 256) (f0 : 0 ≤ jf) (f1 : jf < 256) (k0 : 0 ≤ k) (k1 : k < 4294967296) (hne : s.toList.isEmpty = false) (h1 : (s.toList == [108, 100, 97, 98, 115]) = false) (h2 : (s.toList == [108, 100, 109]) = false) (h3 : (s.toList == [108, 100, 120, 109]) = false) (h4 : (s.toList == [115, 116]) = false) (h5 : (s.toList == [115, 116, 120]) = true) (h6 : (s.toList == [100, 105, 118]) = false) (h7 : (s.toList == [108, 115, 104]) = false) (h8 : (s.toList == [114, 115, 104]) = false) (h9 : (s.toList == [106, 97]) = false) (hq : (q == 4) = false) (W : World) :
    Calls Try.prog 22 #[.agg #[.int .u16 co, .int .u8 jt, .int .u8 jf, .int .u32 k], .int .i64 l] W fun e w' => e = .returned (.int .i64 (rOne false false false false true false false false false q jt jf k (max l 0))) ∧ Ext W w' := by
  have hx := (Ext.refl W).alloc (.cells #[.int .u16 co, .int .u8 jt, .int .u8 jf, .int .u32 k] 25)
  have B := Blk.new W 25 #[.int .u16 co, .int .u8 jt, .int .u8 jf, .int .u32 k]
  by_cases hl : l < 0
  · rw [show max l 0 = 0 from by omega]
    go_enter Try.func22, Try.ntmps22
    go_wp2_with fail
    refine (H1.out _).mono ?_
    rintro e w1 ⟨rfl, hx1⟩
    have hx2 := (hx.trans hx1).alloc (.cells #[.int .u16 c, .string s, .int .u8 q] 72)
    have B2 := (B.ext hx1).alloc (.cells #[.int .u16 c, .string s, .int .u8 q] 72)
    have q1 := B2.cell 1
    have q2 := B2.cell 2
    have q3 := B2.cell 3
    clear B B2 hx1 hx
    go_wp2
    all_goals
      go_ret
      exact ⟨ret_int (by simp [rOne, rTail, *]), hx2⟩
  · rw [show max l 0 = l from by omega]
    go_enter Try.func22, Try.ntmps22
    go_wp2_with fail
    refine (H1.out _).mono ?_
    rintro e w1 ⟨rfl, hx1⟩
    have hx2 := (hx.trans hx1).alloc (.cells #[.int .u16 c, .string s, .int .u8 q] 72)
    have B2 := (B.ext hx1).alloc (.cells #[.int .u16 c, .string s, .int .u8 q] 72)
    have q1 := B2.cell 1
    have q2 := B2.cell 2
    have q3 := B2.cell 3
    clear B B2 hx1 hx
    go_wp2
    all_goals
      go_ret
      exact ⟨ret_int (by simp [rOne, rTail, *]), hx2⟩
set_option maxHeartbeats 4000000 in
set_option maxRecDepth 100000 in
theorem refOne_div (co jt jf k l c q : Int) (s : ByteArray) (H1 : Hid (∀ W : World, Calls Try.prog 45 #[.int .u16 co] W fun e w' => e = .returned (.agg #[.int .u16 c, .string s, .int .u8 q]) ∧ Ext W w'))
    (j0 : 0 ≤ jt) (j1 : jt < 256) (f0 : 0 ≤ jf) (f1 : jf < 256) (k0 : 0 ≤ k) (k1 : k < 4294967296) (hne : s.toList.isEmpty = false) (h1 : (s.toList == [108, 100, 97, 98, 115]) = false) (h2 : (s.toList == [108, 100, 109]) = false) (h3 : (s.toList == [108, 100, 120, 109]) = false) (h4 : (s.toList == [115, 116]) = false) (h5 : (s.toList == [115, 116, 120]) = false) (h6 : (s.toList == [100, 105, 118]) = true) (h7 : (s.toList == [108, 115, 104]) = false) (h8 : (s.toList == [114, 115, 104]) = false) (h9 : (s.toList == [106, 97]) = false) (hq : (q == 4) = false) (W : World) :
    Calls Try.prog 22 #[.agg #[.int .u16 co, .int .u8 jt, .int .u8 jf, .int .u32 k], .int .i64 l] W fun e w' => e = .returned (.int .i64 (rOne false false false false false true false false false q jt jf k (max l 0))) ∧ Ext W w' := by
  have hx := (Ext.refl W).alloc (.cells #[.int .u16 co, .int .u8 jt, .int .u8 jf, .int .u32 k] 25)
  have B := Blk.new W 25 #[.int .u16 co, .int .u8 jt, .int .u8 jf, .int .u32 k]
  rcases hk : (k == 0) with _ | _
  all_goals
    by_cases hl : l < 0
    · rw [show max l 0 = 0 from by omega]
      go_enter Try.func22, Try.ntmps22
      go_wp2_with fail
      refine (H1.out _).mono ?_
      rintro e w1 ⟨rfl, hx1⟩
      have hx2 := (hx.trans hx1).alloc (.cells #[.int .u16 c, .string s, .int .u8 q] 72)
      have B2 := (B.ext hx1).alloc (.cells #[.int .u16 c, .string s, .int .u8 q] 72)
      have q1 := B2.cell 1
      have q2 := B2.cell 2
      have q3 := B2.cell 3
      clear B B2 hx1 hx
      go_wp2
      all_goals
        go_ret
        exact ⟨ret_int (by simp [rOne, rTail, *]), hx2⟩
    · rw [show max l 0 = l from by omega]
      go_enter Try.func22, Try.ntmps22
      go_wp2_with fail
      refine (H1.out _).mono ?_
      rintro e w1 ⟨rfl, hx1⟩
      have hx2 := (hx.trans hx1).alloc (.cells #[.int .u16 c, .string s, .int .u8 q] 72)
      have B2 := (B.ext hx1).alloc (.cells #[.int .u16 c, .string s, .int .u8 q] 72)
      have q1 := B2.cell 1
      have q2 := B2.cell 2
      have q3 := B2.cell 3
      clear B B2 hx1 hx
      go_wp2
      all_goals
        go_ret
        exact ⟨ret_int (by simp [rOne, rTail, *]), hx2⟩
set_option maxHeartbeats 4000000 in
set_option maxRecDepth 100000 in
theorem refOne_lsh (co jt jf k l c q : Int) (s : ByteArray) (H1 : Hid (∀ W : World, Calls Try.prog 45 #[.int .u16 co] W fun e w' => e = .returned (.agg #[.int .u16 c, .string s, .int .u8 q]) ∧ Ext W w'))
    (j0 : 0 ≤ jt) (j1 : jt < 256) (f0 : 0 ≤ jf) (f1 : jf < 256) (k0 : 0 ≤ k) (k1 : k < 4294967296) (hne : s.toList.isEmpty = false) (h1 : (s.toList == [108, 100, 97, 98, 115]) = false) (h2 : (s.toList == [108, 100, 109]) = false) (h3 : (s.toList == [108, 100, 120, 109]) = false) (h4 : (s.toList == [115, 116]) = false) (h5 : (s.toList == [115, 116, 120]) = false) (h6 : (s.toList == [100, 105, 118]) = false) (h7 : (s.toList == [108, 115, 104]) = true) (h8 : (s.toList == [114, 115, 104]) = false) (h9 : (s.toList == [106, 97]) = false) (hq : (q == 4) = false) (W : World) :
    Calls Try.prog 22 #[.agg #[.int .u16 co, .int .u8 jt, .int .u8 jf, .int .u32 k], .int .i64 l] W fun e w' => e = .returned (.int .i64 (rOne false false false false false false true false false q jt jf k (max l 0))) ∧ Ext W w' := by
  have hx := (Ext.refl W).alloc (.cells #[.int .u16 co, .int .u8 jt, .int .u8 jf, .int .u32 k] 25)
  have B := Blk.new W 25 #[.int .u16 co, .int .u8 jt, .int .u8 jf, .int .u32 k]
  by_cases hl : l < 0
  · rw [show max l 0 = 0 from by omega]
    go_enter Try.func22, Try.ntmps22
    go_wp2_with fail
    refine (H1.out _).mono ?_
    rintro e w1 ⟨rfl, hx1⟩
    have hx2 := (hx.trans hx1).alloc (.cells #[.int .u16 c, .string s, .int .u8 q] 72)
    have B2 := (B.ext hx1).alloc (.cells #[.int .u16 c, .string s, .int .u8 q] 72)
    have q1 := B2.cell 1
    have q2 := B2.cell 2
    have q3 := B2.cell 3
    clear B B2 hx1 hx
    go_wp2
    all_goals
      go_ret
      exact ⟨ret_int (by simp [rOne, rTail, *]), hx2⟩
  · rw [show max l 0 = l from by omega]
    go_enter Try.func22, Try.ntmps22
    go_wp2_with fail
    refine (H1.out _).mono ?_
    rintro e w1 ⟨rfl, hx1⟩
    have hx2 := (hx.trans hx1).alloc (.cells #[.int .u16 c, .string s, .int .u8 q] 72)
    have B2 := (B.ext hx1).alloc (.cells #[.int .u16 c, .string s, .int .u8 q] 72)
    have q1 := B2.cell 1
    have q2 := B2.cell 2
    have q3 := B2.cell 3
    clear B B2 hx1 hx
    go_wp2
    all_goals
      go_ret
      exact ⟨ret_int (by simp [rOne, rTail, *]), hx2⟩
set_option maxHeartbeats 4000000 in
set_option maxRecDepth 100000 in
theorem refOne_rsh (co jt jf k l c q : Int) (s : ByteArray) (H1 : Hid (∀ W : World, Calls Try.prog 45 #[.int .u16 co] W fun e w' => e = .returned (.agg #[.int .u16 c, .string s, .int .u8 q]) ∧ Ext W w'))
    (j0 : 0 ≤ jt) (j1 : jt < 256) (f0 : 0 ≤ jf) (f1 : jf < 256) (k0 : 0 ≤ k) (k1 : k < 4294967296) (hne : s.toList.isEmpty = false) (h1 : (s.toList == [108, 100, 97, 98, 115]) = false) (h2 : (s.toList == [108, 100, 109]) = false) (h3 : (s.toList == [108, 100, 120, 109]) = false) (h4 : (s.toList == [115, 116]) = false) (h5 : (s.toList == [115, 116, 120]) = false) (h6 : (s.toList == [100, 105, 118]) = false) (h7 : (s.toList == [108, 115, 104]) = false) (h8 : (s.toList == [114, 115, 104]) = true) (h9 : (s.toList == [106, 97]) = false) (hq : (q == 4) = false) (W : World) :
    Calls Try.prog 22 #[.agg #[.int .u16 co, .int .u8 jt, .int .u8 jf, .int .u32 k], .int .i64 l] W fun e w' => e = .returned (.int .i64 (rOne false false false false false false false true false q jt jf k (max l 0))) ∧ Ext W w' := by
  have hx := (Ext.refl W).alloc (.cells #[.int .u16 co, .int .u8 jt, .int .u8 jf, .int .u32 k] 25)
  have B := Blk.new W 25 #[.int .u16 co, .int .u8 jt, .int .u8 jf, .int .u32 k]
  by_cases hl : l < 0
  · rw [show max l 0 = 0 from by omega]
    go_enter Try.func22, Try.ntmps22
    go_wp2_with fail
    refine (H1.out _).mono ?_
    rintro e w1 ⟨rfl, hx1⟩
    have hx2 := (hx.trans hx1).alloc (.cells #[.int .u16 c, .string s, .int .u8 q] 72)
    have B2 := (B.ext hx1).alloc (.cells #[.int .u16 c, .string s, .int .u8 q] 72)
    have q1 := B2.cell 1
    have q2 := B2.cell 2
    have q3 := B2.cell 3
    clear B B2 hx1 hx
    go_wp2
    all_goals
      go_ret
      exact ⟨ret_int (by simp [rOne, rTail, *]), hx2⟩
  · rw [show max l 0 = l from by omega]
    go_enter Try.func22, Try.ntmps22
    go_wp2_with fail
    refine (H1.out _).mono ?_
    rintro e w1 ⟨rfl, hx1⟩
    have hx2 := (hx.trans hx1).alloc (.cells #[.int .u16 c, .string s, .int .u8 q] 72)
    have B2 := (B.ext hx1).alloc (.cells #[.int .u16 c, .string s, .int .u8 q] 72)
    have q1 := B2.cell 1
    have q2 := B2.cell 2
    have q3 := B2.cell 3
    clear B B2 hx1 hx
    go_wp2
    all_goals
      go_ret
      exact ⟨ret_int (by simp [rOne, rTail, *]), hx2⟩
set_option maxHeartbeats 4000000 in
set_option maxRecDepth 100000 in
theorem refOne_ja (co jt jf k l c q : Int) (s : ByteArray) (H1 : Hid (∀ W : World, Calls Try.prog 45 #[.int .u16 co] W fun e w' => e = .returned (.agg #[.int .u16 c, .string s, .int .u8 q]) ∧ Ext W w'))
    (j0 : 0 ≤ jt) (j1 : jt < 256) (f0 : 0 ≤ jf) (f1 : jf < 256) (k0 : 0 ≤ k) (k1 : k < 4294967296) (hne : s.toList.isEmpty = false) (h1 : (s.toList == [108, 100, 97, 98, 115]) = false) (h2 : (s.toList == [108, 100, 109]) = false) (h3 : (s.toList == [108, 100, 120, 109]) = false) (h4 : (s.toList == [115, 116]) = false) (h5 : (s.toList == [115, 116, 120]) = false) (h6 : (s.toList == [100, 105, 118]) = false) (h7 : (s.toList == [108, 115, 104]) = false) (h8 : (s.toList == [114, 115, 104]) = false) (h9 : (s.toList == [106, 97]) = true) (W : World) :
    Calls Try.prog 22 #[.agg #[.int .u16 co, .int .u8 jt, .int .u8 jf, .int .u32 k], .int .i64 l] W fun e w' => e = .returned (.int .i64 (rOne false false false false false false false false true q jt jf k (max l 0))) ∧ Ext W w' := by
  have hx := (Ext.refl W).alloc (.cells #[.int .u16 co, .int .u8 jt, .int .u8 jf, .int .u32 k] 25)
  have B := Blk.new W 25 #[.int .u16 co, .int .u8 jt, .int .u8 jf, .int .u32 k]
  by_cases hl : l < 0
  · rw [show max l 0 = 0 from by omega]
    go_enter Try.func22, Try.ntmps22
    go_wp2_with fail
    refine (H1.out _).mono ?_
    rintro e w1 ⟨rfl, hx1⟩
    have hx2 := (hx.trans hx1).alloc (.cells #[.int .u16 c, .string s, .int .u8 q] 72)
    have B2 := (B.ext hx1).alloc (.cells #[.int .u16 c, .string s, .int .u8 q] 72)
    have q1 := B2.cell 1
    have q2 := B2.cell 2
    have q3 := B2.cell 3
    clear B B2 hx1 hx
    go_wp2
    all_goals
      go_ret
      exact ⟨ret_int (by simp [rOne, rTail, *]), hx2⟩
  · rw [show max l 0 = l from by omega]
    go_enter Try.func22, Try.ntmps22
    go_wp2_with fail
    refine (H1.out _).mono ?_
    rintro e w1 ⟨rfl, hx1⟩
    have hx2 := (hx.trans hx1).alloc (.cells #[.int .u16 c, .string s, .int .u8 q] 72)
    have B2 := (B.ext hx1).alloc (.cells #[.int .u16 c, .string s, .int .u8 q] 72)
    have q1 := B2.cell 1
    have q2 := B2.cell 2
    have q3 := B2.cell 3
    clear B B2 hx1 hx
    go_wp2
    all_goals
      go_ret
      exact ⟨ret_int (by simp [rOne, rTail, *]), hx2⟩
set_option maxHeartbeats 4000000 in
set_option maxRecDepth 100000 in
theorem refOne_other (co jt jf k l c q : Int) (s : ByteArray) (H1 : Hid (∀ W : World, Calls Try.prog 45 #[.int .u16 co] W fun e w' => e = .returned (.agg #[.int .u16 c, .string s, .int .u8 q]) ∧ Ext W w'))
    (j0 : 0 ≤ jt) (j1 : jt < 256) (f0 : 0 ≤ jf) (f1 : jf < 256) (k0 : 0 ≤ k) (k1 : k < 4294967296) (hne : s.toList.isEmpty = false) (h1 : (s.toList == [108, 100, 97, 98, 115]) = false) (h2 : (s.toList == [108, 100, 109]) = false) (h3 : (s.toList == [108, 100, 120, 109]) = false) (h4 : (s.toList == [115, 116]) = false) (h5 : (s.toList == [115, 116, 120]) = false) (h6 : (s.toList == [100, 105, 118]) = false) (h7 : (s.toList == [108, 115, 104]) = false) (h8 : (s.toList == [114, 115, 104]) = false) (h9 : (s.toList == [106, 97]) = false) (W : World) :
    Calls Try.prog 22 #[.agg #[.int .u16 co, .int .u8 jt, .int .u8 jf, .int .u32 k], .int .i64 l] W fun e w' => e = .returned (.int .i64 (rOne false false false false false false false false false q jt jf k (max l 0))) ∧ Ext W w' := by
  have hx := (Ext.refl W).alloc (.cells #[.int .u16 co, .int .u8 jt, .int .u8 jf, .int .u32 k] 25)
  have B := Blk.new W 25 #[.int .u16 co, .int .u8 jt, .int .u8 jf, .int .u32 k]
  rcases hq : (q == 4) with _ | _
  all_goals
    by_cases hl : l < 0
    · rw [show max l 0 = 0 from by omega]
      go_enter Try.func22, Try.ntmps22
      go_wp2_with fail
      refine (H1.out _).mono ?_
      rintro e w1 ⟨rfl, hx1⟩
      have hx2 := (hx.trans hx1).alloc (.cells #[.int .u16 c, .string s, .int .u8 q] 72)
      have B2 := (B.ext hx1).alloc (.cells #[.int .u16 c, .string s, .int .u8 q] 72)
      have q1 := B2.cell 1
      have q2 := B2.cell 2
      have q3 := B2.cell 3
      clear B B2 hx1 hx
      go_wp2
      all_goals
        go_ret
        exact ⟨ret_int (by simp [rOne, rTail, *]), hx2⟩
    · rw [show max l 0 = l from by omega]
      go_enter Try.func22, Try.ntmps22
      go_wp2_with fail
      refine (H1.out _).mono ?_
      rintro e w1 ⟨rfl, hx1⟩
      have hx2 := (hx.trans hx1).alloc (.cells #[.int .u16 c, .string s, .int .u8 q] 72)
      have B2 := (B.ext hx1).alloc (.cells #[.int .u16 c, .string s, .int .u8 q] 72)
      have q1 := B2.cell 1
      have q2 := B2.cell 2
      have q3 := B2.cell 3
      clear B B2 hx1 hx
      go_wp2
      all_goals
        go_ret
        exact ⟨ret_int (by simp [rOne, rTail, *]), hx2⟩
set_option maxHeartbeats 4000000 in
set_option maxRecDepth 100000 in
theorem refOne_none (co jt jf k l c q : Int) (s : ByteArray) (H1 : Hid (∀ W : World, Calls Try.prog 45 #[.int .u16 co] W fun e w' => e = .returned (.agg #[.int .u16 c, .string s, .int .u8 q]) ∧ Ext W w')) (hne : s.toList.isEmpty = true) (W : World) :
    Calls Try.prog 22 #[.agg #[.int .u16 co, .int .u8 jt, .int .u8 jf, .int .u32 k], .int .i64 l] W fun e w' => e = .returned (.int .i64 40) ∧ Ext W w' := by
  have hx := (Ext.refl W).alloc (.cells #[.int .u16 co, .int .u8 jt, .int .u8 jf, .int .u32 k] 25)
  have B := Blk.new W 25 #[.int .u16 co, .int .u8 jt, .int .u8 jf, .int .u32 k]
  by_cases hl : l < 0
  ·
    go_enter Try.func22, Try.ntmps22
    go_wp2_with fail
    refine (H1.out _).mono ?_
    rintro e w1 ⟨rfl, hx1⟩
    have hx2 := (hx.trans hx1).alloc (.cells #[.int .u16 c, .string s, .int .u8 q] 72)
    have B2 := (B.ext hx1).alloc (.cells #[.int .u16 c, .string s, .int .u8 q] 72)
    have q1 := B2.cell 1
    have q2 := B2.cell 2
    have q3 := B2.cell 3
    clear B B2 hx1 hx
    go_wp2
    all_goals
      go_ret
      exact ⟨ret_int (by simp [rOne, rTail, *]), hx2⟩
  ·
    go_enter Try.func22, Try.ntmps22
    go_wp2_with fail
    refine (H1.out _).mono ?_
    rintro e w1 ⟨rfl, hx1⟩
    have hx2 := (hx.trans hx1).alloc (.cells #[.int .u16 c, .string s, .int .u8 q] 72)
    have B2 := (B.ext hx1).alloc (.cells #[.int .u16 c, .string s, .int .u8 q] 72)
    have q1 := B2.cell 1
    have q2 := B2.cell 2
    have q3 := B2.cell 3
    clear B B2 hx1 hx
    go_wp2
    all_goals
      go_ret
      exact ⟨ret_int (by simp [rOne, rTail, *]), hx2⟩
end Go.Proofs.Ytplpffcolcjboaa
