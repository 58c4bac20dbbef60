import Derived.Test.YtjlhfmedaandeaaChkA
namespace Go.Proofs.Ytjlhfmedaandeaa
open Go.RowKit Go.ChangeShapes Go.WideShapes
set_option linter.unusedVariables false
set_option linter.unusedSimpArgs false

def rTail (q jt jf l : Int) : Int := if q == 4 && (decide (l ≤ jt) || decide (l ≤ jf)) then 42 else 0
/-- The document's answer, by the tests of the name. -/
def rOne (t1 t2 t3 t4 t5 t6 t7 t8 t9 : Bool) (q jt jf k l : Int) : Int :=
  if t1 then (if decide (60 < k) || decide (0 < k % 4) then 41 else rTail q jt jf l)
  else if t2 || t3 || t4 || t5 then (if decide (15 < k) then 43 else rTail q jt jf l)
  else if t6 then (if k == 0 then 44 else rTail q jt jf l)
  else if t7 || t8 then (if decide (31 < k) then 45 else rTail q jt jf l)
  else if t9 then (if decide (l ≤ k) then 42 else 0)
  else rTail q jt jf l
def nameIs (s : ByteArray) (t : List UInt8) : Bool := s.toList == t
def refOneE (i : Ins) (l : Int) : Int :=
  let e := (byO i.code).1
  if e.name.toList.isEmpty then 40 else
  rOne (nameIs e.name [108, 100, 97, 98, 115]) (nameIs e.name [108, 100, 109]) (nameIs e.name [108, 100, 120, 109]) (nameIs e.name [115, 116]) (nameIs e.name [115, 116, 120]) (nameIs e.name [100, 105, 118]) (nameIs e.name [108, 115, 104]) (nameIs e.name [114, 115, 104]) (nameIs e.name [106, 97]) e.cls i.jt i.jf i.k (max l 0)

end Go.Proofs.Ytjlhfmedaandeaa

namespace Go.Proofs.Ytjlhfmedaandeaa
open Go.RowKit Go.ChangeShapes Go.WideShapes
set_option linter.unusedVariables false
set_option linter.unusedSimpArgs false

theorem same_ldabs (k : Int) (h : 0 ≤ k) : (if decide (60 < k) || decide (0 < k % 4) then (41 : Int) else 0) = if (k % 4 != 0) || decide (64 ≤ k) then 41 else 0 := by
  by_cases h1 : k % 4 = 0
  · have e : (k % 4 != 0) = false := by simp [h1]
    by_cases h2 : 60 < k
    · have : 64 ≤ k := by omega
      simp [h2, this]
    · have : ¬ 64 ≤ k := by omega
      have h3 : ¬ 0 < k % 4 := by omega
      simp [h2, this, h3, e]
  · have e : (k % 4 != 0) = true := by simp [h1]
    have h3 : 0 < k % 4 := by omega
    simp [h3, e]
theorem same_cell (k : Int) : (if decide (15 < k) then (43 : Int) else 0) = if decide (16 ≤ k) then 43 else 0 := by
  by_cases h : 15 < k
  · simp [h, show 16 ≤ k by omega]
  · simp [h, show ¬ 16 ≤ k by omega]
theorem same_jump (jt jf l : Int) : (if decide (l ≤ jt) || decide (l ≤ jf) then (42 : Int) else 0) = if decide (l ≤ max jt jf) then 42 else 0 := by
  by_cases h1 : l ≤ jt
  · simp [h1, show l ≤ max jt jf by omega]
  · by_cases h2 : l ≤ jf
    · simp [h1, h2, show l ≤ max jt jf by omega]
    · simp [h1, h2, show ¬ l ≤ max jt jf by omega]

theorem same_32 (jt jf k l : Int) (h : 0 ≤ k) : refOneE ⟨32, jt, jf, k⟩ l = oneE ⟨32, jt, jf, k⟩ l := by
  have e1 : refOneE ⟨32, jt, jf, k⟩ l = (if decide (60 < k) || decide (0 < k % 4) then (41 : Int) else 0) := by kernel_rfl
  have e2 : oneE ⟨32, jt, jf, k⟩ l = (if (k % 4 != 0) || decide (64 ≤ k) then (41 : Int) else 0) := by kernel_rfl
  rw [e1, e2]
  exact same_ldabs k h
theorem same_128 (jt jf k l : Int) (h : 0 ≤ k) : refOneE ⟨128, jt, jf, k⟩ l = oneE ⟨128, jt, jf, k⟩ l := by
  have e1 : refOneE ⟨128, jt, jf, k⟩ l = (0) := by kernel_rfl
  have e2 : oneE ⟨128, jt, jf, k⟩ l = (0) := by kernel_rfl
  rw [e1, e2]
theorem same_0 (jt jf k l : Int) (h : 0 ≤ k) : refOneE ⟨0, jt, jf, k⟩ l = oneE ⟨0, jt, jf, k⟩ l := by
  have e1 : refOneE ⟨0, jt, jf, k⟩ l = (0) := by kernel_rfl
  have e2 : oneE ⟨0, jt, jf, k⟩ l = (0) := by kernel_rfl
  rw [e1, e2]
theorem same_96 (jt jf k l : Int) (h : 0 ≤ k) : refOneE ⟨96, jt, jf, k⟩ l = oneE ⟨96, jt, jf, k⟩ l := by
  have e1 : refOneE ⟨96, jt, jf, k⟩ l = (if decide (15 < k) then (43 : Int) else 0) := by kernel_rfl
  have e2 : oneE ⟨96, jt, jf, k⟩ l = (if decide (16 ≤ k) then (43 : Int) else 0) := by kernel_rfl
  rw [e1, e2]
  exact same_cell k
theorem same_129 (jt jf k l : Int) (h : 0 ≤ k) : refOneE ⟨129, jt, jf, k⟩ l = oneE ⟨129, jt, jf, k⟩ l := by
  have e1 : refOneE ⟨129, jt, jf, k⟩ l = (0) := by kernel_rfl
  have e2 : oneE ⟨129, jt, jf, k⟩ l = (0) := by kernel_rfl
  rw [e1, e2]
theorem same_1 (jt jf k l : Int) (h : 0 ≤ k) : refOneE ⟨1, jt, jf, k⟩ l = oneE ⟨1, jt, jf, k⟩ l := by
  have e1 : refOneE ⟨1, jt, jf, k⟩ l = (0) := by kernel_rfl
  have e2 : oneE ⟨1, jt, jf, k⟩ l = (0) := by kernel_rfl
  rw [e1, e2]
theorem same_97 (jt jf k l : Int) (h : 0 ≤ k) : refOneE ⟨97, jt, jf, k⟩ l = oneE ⟨97, jt, jf, k⟩ l := by
  have e1 : refOneE ⟨97, jt, jf, k⟩ l = (if decide (15 < k) then (43 : Int) else 0) := by kernel_rfl
  have e2 : oneE ⟨97, jt, jf, k⟩ l = (if decide (16 ≤ k) then (43 : Int) else 0) := by kernel_rfl
  rw [e1, e2]
  exact same_cell k
theorem same_2 (jt jf k l : Int) (h : 0 ≤ k) : refOneE ⟨2, jt, jf, k⟩ l = oneE ⟨2, jt, jf, k⟩ l := by
  have e1 : refOneE ⟨2, jt, jf, k⟩ l = (if decide (15 < k) then (43 : Int) else 0) := by kernel_rfl
  have e2 : oneE ⟨2, jt, jf, k⟩ l = (if decide (16 ≤ k) then (43 : Int) else 0) := by kernel_rfl
  rw [e1, e2]
  exact same_cell k
theorem same_3 (jt jf k l : Int) (h : 0 ≤ k) : refOneE ⟨3, jt, jf, k⟩ l = oneE ⟨3, jt, jf, k⟩ l := by
  have e1 : refOneE ⟨3, jt, jf, k⟩ l = (if decide (15 < k) then (43 : Int) else 0) := by kernel_rfl
  have e2 : oneE ⟨3, jt, jf, k⟩ l = (if decide (16 ≤ k) then (43 : Int) else 0) := by kernel_rfl
  rw [e1, e2]
  exact same_cell k
theorem same_4 (jt jf k l : Int) (h : 0 ≤ k) : refOneE ⟨4, jt, jf, k⟩ l = oneE ⟨4, jt, jf, k⟩ l := by
  have e1 : refOneE ⟨4, jt, jf, k⟩ l = (0) := by kernel_rfl
  have e2 : oneE ⟨4, jt, jf, k⟩ l = (0) := by kernel_rfl
  rw [e1, e2]
theorem same_20 (jt jf k l : Int) (h : 0 ≤ k) : refOneE ⟨20, jt, jf, k⟩ l = oneE ⟨20, jt, jf, k⟩ l := by
  have e1 : refOneE ⟨20, jt, jf, k⟩ l = (0) := by kernel_rfl
  have e2 : oneE ⟨20, jt, jf, k⟩ l = (0) := by kernel_rfl
  rw [e1, e2]
theorem same_36 (jt jf k l : Int) (h : 0 ≤ k) : refOneE ⟨36, jt, jf, k⟩ l = oneE ⟨36, jt, jf, k⟩ l := by
  have e1 : refOneE ⟨36, jt, jf, k⟩ l = (0) := by kernel_rfl
  have e2 : oneE ⟨36, jt, jf, k⟩ l = (0) := by kernel_rfl
  rw [e1, e2]
theorem same_52 (jt jf k l : Int) (h : 0 ≤ k) : refOneE ⟨52, jt, jf, k⟩ l = oneE ⟨52, jt, jf, k⟩ l := by
  have e1 : refOneE ⟨52, jt, jf, k⟩ l = (if k == 0 then (44 : Int) else 0) := by kernel_rfl
  have e2 : oneE ⟨52, jt, jf, k⟩ l = (if k == 0 then (44 : Int) else 0) := by kernel_rfl
  rw [e1, e2]
theorem same_68 (jt jf k l : Int) (h : 0 ≤ k) : refOneE ⟨68, jt, jf, k⟩ l = oneE ⟨68, jt, jf, k⟩ l := by
  have e1 : refOneE ⟨68, jt, jf, k⟩ l = (0) := by kernel_rfl
  have e2 : oneE ⟨68, jt, jf, k⟩ l = (0) := by kernel_rfl
  rw [e1, e2]
theorem same_84 (jt jf k l : Int) (h : 0 ≤ k) : refOneE ⟨84, jt, jf, k⟩ l = oneE ⟨84, jt, jf, k⟩ l := by
  have e1 : refOneE ⟨84, jt, jf, k⟩ l = (0) := by kernel_rfl
  have e2 : oneE ⟨84, jt, jf, k⟩ l = (0) := by kernel_rfl
  rw [e1, e2]
theorem same_100 (jt jf k l : Int) (h : 0 ≤ k) : refOneE ⟨100, jt, jf, k⟩ l = oneE ⟨100, jt, jf, k⟩ l := by
  have e1 : refOneE ⟨100, jt, jf, k⟩ l = (if decide (31 < k) then (45 : Int) else 0) := by kernel_rfl
  have e2 : oneE ⟨100, jt, jf, k⟩ l = (if decide (31 < k) then (45 : Int) else 0) := by kernel_rfl
  rw [e1, e2]
theorem same_116 (jt jf k l : Int) (h : 0 ≤ k) : refOneE ⟨116, jt, jf, k⟩ l = oneE ⟨116, jt, jf, k⟩ l := by
  have e1 : refOneE ⟨116, jt, jf, k⟩ l = (if decide (31 < k) then (45 : Int) else 0) := by kernel_rfl
  have e2 : oneE ⟨116, jt, jf, k⟩ l = (if decide (31 < k) then (45 : Int) else 0) := by kernel_rfl
  rw [e1, e2]
theorem same_164 (jt jf k l : Int) (h : 0 ≤ k) : refOneE ⟨164, jt, jf, k⟩ l = oneE ⟨164, jt, jf, k⟩ l := by
  have e1 : refOneE ⟨164, jt, jf, k⟩ l = (0) := by kernel_rfl
  have e2 : oneE ⟨164, jt, jf, k⟩ l = (0) := by kernel_rfl
  rw [e1, e2]
theorem same_12 (jt jf k l : Int) (h : 0 ≤ k) : refOneE ⟨12, jt, jf, k⟩ l = oneE ⟨12, jt, jf, k⟩ l := by
  have e1 : refOneE ⟨12, jt, jf, k⟩ l = (0) := by kernel_rfl
  have e2 : oneE ⟨12, jt, jf, k⟩ l = (0) := by kernel_rfl
  rw [e1, e2]
theorem same_28 (jt jf k l : Int) (h : 0 ≤ k) : refOneE ⟨28, jt, jf, k⟩ l = oneE ⟨28, jt, jf, k⟩ l := by
  have e1 : refOneE ⟨28, jt, jf, k⟩ l = (0) := by kernel_rfl
  have e2 : oneE ⟨28, jt, jf, k⟩ l = (0) := by kernel_rfl
  rw [e1, e2]
theorem same_44 (jt jf k l : Int) (h : 0 ≤ k) : refOneE ⟨44, jt, jf, k⟩ l = oneE ⟨44, jt, jf, k⟩ l := by
  have e1 : refOneE ⟨44, jt, jf, k⟩ l = (0) := by kernel_rfl
  have e2 : oneE ⟨44, jt, jf, k⟩ l = (0) := by kernel_rfl
  rw [e1, e2]
theorem same_60 (jt jf k l : Int) (h : 0 ≤ k) : refOneE ⟨60, jt, jf, k⟩ l = oneE ⟨60, jt, jf, k⟩ l := by
  have e1 : refOneE ⟨60, jt, jf, k⟩ l = (0) := by kernel_rfl
  have e2 : oneE ⟨60, jt, jf, k⟩ l = (0) := by kernel_rfl
  rw [e1, e2]
theorem same_76 (jt jf k l : Int) (h : 0 ≤ k) : refOneE ⟨76, jt, jf, k⟩ l = oneE ⟨76, jt, jf, k⟩ l := by
  have e1 : refOneE ⟨76, jt, jf, k⟩ l = (0) := by kernel_rfl
  have e2 : oneE ⟨76, jt, jf, k⟩ l = (0) := by kernel_rfl
  rw [e1, e2]
theorem same_92 (jt jf k l : Int) (h : 0 ≤ k) : refOneE ⟨92, jt, jf, k⟩ l = oneE ⟨92, jt, jf, k⟩ l := by
  have e1 : refOneE ⟨92, jt, jf, k⟩ l = (0) := by kernel_rfl
  have e2 : oneE ⟨92, jt, jf, k⟩ l = (0) := by kernel_rfl
  rw [e1, e2]
theorem same_108 (jt jf k l : Int) (h : 0 ≤ k) : refOneE ⟨108, jt, jf, k⟩ l = oneE ⟨108, jt, jf, k⟩ l := by
  have e1 : refOneE ⟨108, jt, jf, k⟩ l = (0) := by kernel_rfl
  have e2 : oneE ⟨108, jt, jf, k⟩ l = (0) := by kernel_rfl
  rw [e1, e2]
theorem same_124 (jt jf k l : Int) (h : 0 ≤ k) : refOneE ⟨124, jt, jf, k⟩ l = oneE ⟨124, jt, jf, k⟩ l := by
  have e1 : refOneE ⟨124, jt, jf, k⟩ l = (0) := by kernel_rfl
  have e2 : oneE ⟨124, jt, jf, k⟩ l = (0) := by kernel_rfl
  rw [e1, e2]
theorem same_172 (jt jf k l : Int) (h : 0 ≤ k) : refOneE ⟨172, jt, jf, k⟩ l = oneE ⟨172, jt, jf, k⟩ l := by
  have e1 : refOneE ⟨172, jt, jf, k⟩ l = (0) := by kernel_rfl
  have e2 : oneE ⟨172, jt, jf, k⟩ l = (0) := by kernel_rfl
  rw [e1, e2]
theorem same_132 (jt jf k l : Int) (h : 0 ≤ k) : refOneE ⟨132, jt, jf, k⟩ l = oneE ⟨132, jt, jf, k⟩ l := by
  have e1 : refOneE ⟨132, jt, jf, k⟩ l = (0) := by kernel_rfl
  have e2 : oneE ⟨132, jt, jf, k⟩ l = (0) := by kernel_rfl
  rw [e1, e2]
theorem same_5 (jt jf k l : Int) (h : 0 ≤ k) : refOneE ⟨5, jt, jf, k⟩ l = oneE ⟨5, jt, jf, k⟩ l := by
  have e1 : refOneE ⟨5, jt, jf, k⟩ l = (if decide (max l 0 ≤ k) then (42 : Int) else 0) := by kernel_rfl
  have e2 : oneE ⟨5, jt, jf, k⟩ l = (if decide (max l 0 ≤ k) then (42 : Int) else 0) := by kernel_rfl
  rw [e1, e2]
theorem same_21 (jt jf k l : Int) (h : 0 ≤ k) : refOneE ⟨21, jt, jf, k⟩ l = oneE ⟨21, jt, jf, k⟩ l := by
  have e1 : refOneE ⟨21, jt, jf, k⟩ l = (if decide (max l 0 ≤ jt) || decide (max l 0 ≤ jf) then (42 : Int) else 0) := by kernel_rfl
  have e2 : oneE ⟨21, jt, jf, k⟩ l = (if decide (max l 0 ≤ max jt jf) then (42 : Int) else 0) := by kernel_rfl
  rw [e1, e2]
  exact same_jump jt jf (max l 0)
theorem same_37 (jt jf k l : Int) (h : 0 ≤ k) : refOneE ⟨37, jt, jf, k⟩ l = oneE ⟨37, jt, jf, k⟩ l := by
  have e1 : refOneE ⟨37, jt, jf, k⟩ l = (if decide (max l 0 ≤ jt) || decide (max l 0 ≤ jf) then (42 : Int) else 0) := by kernel_rfl
  have e2 : oneE ⟨37, jt, jf, k⟩ l = (if decide (max l 0 ≤ max jt jf) then (42 : Int) else 0) := by kernel_rfl
  rw [e1, e2]
  exact same_jump jt jf (max l 0)
theorem same_53 (jt jf k l : Int) (h : 0 ≤ k) : refOneE ⟨53, jt, jf, k⟩ l = oneE ⟨53, jt, jf, k⟩ l := by
  have e1 : refOneE ⟨53, jt, jf, k⟩ l = (if decide (max l 0 ≤ jt) || decide (max l 0 ≤ jf) then (42 : Int) else 0) := by kernel_rfl
  have e2 : oneE ⟨53, jt, jf, k⟩ l = (if decide (max l 0 ≤ max jt jf) then (42 : Int) else 0) := by kernel_rfl
  rw [e1, e2]
  exact same_jump jt jf (max l 0)
theorem same_69 (jt jf k l : Int) (h : 0 ≤ k) : refOneE ⟨69, jt, jf, k⟩ l = oneE ⟨69, jt, jf, k⟩ l := by
  have e1 : refOneE ⟨69, jt, jf, k⟩ l = (if decide (max l 0 ≤ jt) || decide (max l 0 ≤ jf) then (42 : Int) else 0) := by kernel_rfl
  have e2 : oneE ⟨69, jt, jf, k⟩ l = (if decide (max l 0 ≤ max jt jf) then (42 : Int) else 0) := by kernel_rfl
  rw [e1, e2]
  exact same_jump jt jf (max l 0)
theorem same_29 (jt jf k l : Int) (h : 0 ≤ k) : refOneE ⟨29, jt, jf, k⟩ l = oneE ⟨29, jt, jf, k⟩ l := by
  have e1 : refOneE ⟨29, jt, jf, k⟩ l = (if decide (max l 0 ≤ jt) || decide (max l 0 ≤ jf) then (42 : Int) else 0) := by kernel_rfl
  have e2 : oneE ⟨29, jt, jf, k⟩ l = (if decide (max l 0 ≤ max jt jf) then (42 : Int) else 0) := by kernel_rfl
  rw [e1, e2]
  exact same_jump jt jf (max l 0)
theorem same_45 (jt jf k l : Int) (h : 0 ≤ k) : refOneE ⟨45, jt, jf, k⟩ l = oneE ⟨45, jt, jf, k⟩ l := by
  have e1 : refOneE ⟨45, jt, jf, k⟩ l = (if decide (max l 0 ≤ jt) || decide (max l 0 ≤ jf) then (42 : Int) else 0) := by kernel_rfl
  have e2 : oneE ⟨45, jt, jf, k⟩ l = (if decide (max l 0 ≤ max jt jf) then (42 : Int) else 0) := by kernel_rfl
  rw [e1, e2]
  exact same_jump jt jf (max l 0)
theorem same_61 (jt jf k l : Int) (h : 0 ≤ k) : refOneE ⟨61, jt, jf, k⟩ l = oneE ⟨61, jt, jf, k⟩ l := by
  have e1 : refOneE ⟨61, jt, jf, k⟩ l = (if decide (max l 0 ≤ jt) || decide (max l 0 ≤ jf) then (42 : Int) else 0) := by kernel_rfl
  have e2 : oneE ⟨61, jt, jf, k⟩ l = (if decide (max l 0 ≤ max jt jf) then (42 : Int) else 0) := by kernel_rfl
  rw [e1, e2]
  exact same_jump jt jf (max l 0)
theorem same_77 (jt jf k l : Int) (h : 0 ≤ k) : refOneE ⟨77, jt, jf, k⟩ l = oneE ⟨77, jt, jf, k⟩ l := by
  have e1 : refOneE ⟨77, jt, jf, k⟩ l = (if decide (max l 0 ≤ jt) || decide (max l 0 ≤ jf) then (42 : Int) else 0) := by kernel_rfl
  have e2 : oneE ⟨77, jt, jf, k⟩ l = (if decide (max l 0 ≤ max jt jf) then (42 : Int) else 0) := by kernel_rfl
  rw [e1, e2]
  exact same_jump jt jf (max l 0)
theorem same_6 (jt jf k l : Int) (h : 0 ≤ k) : refOneE ⟨6, jt, jf, k⟩ l = oneE ⟨6, jt, jf, k⟩ l := by
  have e1 : refOneE ⟨6, jt, jf, k⟩ l = (0) := by kernel_rfl
  have e2 : oneE ⟨6, jt, jf, k⟩ l = (0) := by kernel_rfl
  rw [e1, e2]
theorem same_22 (jt jf k l : Int) (h : 0 ≤ k) : refOneE ⟨22, jt, jf, k⟩ l = oneE ⟨22, jt, jf, k⟩ l := by
  have e1 : refOneE ⟨22, jt, jf, k⟩ l = (0) := by kernel_rfl
  have e2 : oneE ⟨22, jt, jf, k⟩ l = (0) := by kernel_rfl
  rw [e1, e2]
theorem same_7 (jt jf k l : Int) (h : 0 ≤ k) : refOneE ⟨7, jt, jf, k⟩ l = oneE ⟨7, jt, jf, k⟩ l := by
  have e1 : refOneE ⟨7, jt, jf, k⟩ l = (0) := by kernel_rfl
  have e2 : oneE ⟨7, jt, jf, k⟩ l = (0) := by kernel_rfl
  rw [e1, e2]
theorem same_135 (jt jf k l : Int) (h : 0 ≤ k) : refOneE ⟨135, jt, jf, k⟩ l = oneE ⟨135, jt, jf, k⟩ l := by
  have e1 : refOneE ⟨135, jt, jf, k⟩ l = (0) := by kernel_rfl
  have e2 : oneE ⟨135, jt, jf, k⟩ l = (0) := by kernel_rfl
  rw [e1, e2]
theorem one_same (i : Ins) (hi : i.ok) (l : Int) : refOneE i l = oneE i l := by
  have hk := hi.2.2.2.1
  obtain ⟨co, jt, jf, k⟩ := i
  dsimp only at hk
  rcases by_cases_ co with h | ⟨e, he, hc, h⟩
  · have e1 : refOneE ⟨co, jt, jf, k⟩ l = 40 := by
      unfold refOneE
      dsimp only
      rw [← by_same, h]
      exact if_pos (by kernel_rfl)
    have e2 : oneE ⟨co, jt, jf, k⟩ l = 40 := by
      unfold oneE wr1
      dsimp only
      rw [h]
      rfl
    rw [e1, e2]
  · clear h
    subst hc
    simp only [ents, List.mem_cons, List.not_mem_nil, or_false] at he
    rcases he with rfl | rfl | rfl | rfl | rfl | rfl | rfl | rfl | rfl | rfl | rfl | rfl | rfl | rfl | rfl | rfl | rfl | rfl | rfl | rfl | rfl | rfl | rfl | rfl | rfl | rfl | rfl | rfl | rfl | rfl | rfl | rfl | rfl | rfl | rfl | rfl | rfl | rfl | rfl | rfl | rfl
    · exact same_32 jt jf k l hk
    · exact same_128 jt jf k l hk
    · exact same_0 jt jf k l hk
    · exact same_96 jt jf k l hk
    · exact same_129 jt jf k l hk
    · exact same_1 jt jf k l hk
    · exact same_97 jt jf k l hk
    · exact same_2 jt jf k l hk
    · exact same_3 jt jf k l hk
    · exact same_4 jt jf k l hk
    · exact same_20 jt jf k l hk
    · exact same_36 jt jf k l hk
    · exact same_52 jt jf k l hk
    · exact same_68 jt jf k l hk
    · exact same_84 jt jf k l hk
    · exact same_100 jt jf k l hk
    · exact same_116 jt jf k l hk
    · exact same_164 jt jf k l hk
    · exact same_12 jt jf k l hk
    · exact same_28 jt jf k l hk
    · exact same_44 jt jf k l hk
    · exact same_60 jt jf k l hk
    · exact same_76 jt jf k l hk
    · exact same_92 jt jf k l hk
    · exact same_108 jt jf k l hk
    · exact same_124 jt jf k l hk
    · exact same_172 jt jf k l hk
    · exact same_132 jt jf k l hk
    · exact same_5 jt jf k l hk
    · exact same_21 jt jf k l hk
    · exact same_37 jt jf k l hk
    · exact same_53 jt jf k l hk
    · exact same_69 jt jf k l hk
    · exact same_29 jt jf k l hk
    · exact same_45 jt jf k l hk
    · exact same_61 jt jf k l hk
    · exact same_77 jt jf k l hk
    · exact same_6 jt jf k l hk
    · exact same_22 jt jf k l hk
    · exact same_7 jt jf k l hk
    · exact same_135 jt jf k l hk

def vecOf (s : ByteArray) : List Bool := [nameIs s [108, 100, 97, 98, 115], nameIs s [108, 100, 109], nameIs s [108, 100, 120, 109], nameIs s [115, 116], nameIs s [115, 116, 120], nameIs s [100, 105, 118], nameIs s [108, 115, 104], nameIs s [114, 115, 104], nameIs s [106, 97]]
def vecs : List (List Bool) := [[true, false, false, false, false, false, false, false, false], [false, true, false, false, false, false, false, false, false], [false, false, true, false, false, false, false, false, false], [false, false, false, true, false, false, false, false, false], [false, false, false, false, true, false, false, false, false], [false, false, false, false, false, true, false, false, false], [false, false, false, false, false, false, true, false, false], [false, false, false, false, false, false, false, true, false], [false, false, false, false, false, false, false, false, true], [false, false, false, false, false, false, false, false, false]]
theorem ents_vec : (ents.all fun e => !e.name.toList.isEmpty && vecs.contains (vecOf e.name) && (!(e.cls == 4) || nameIs e.name [106, 97] || vecOf e.name == [false, false, false, false, false, false, false, false, false])) = true := by kernel_rfl

end Go.Proofs.Ytjlhfmedaandeaa
