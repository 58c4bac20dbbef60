import Derived.Test.YtkejcfbhikpibaaChk2
namespace Go.Proofs.Ytkejcfbhikpibaa
open Go.RowKit Go.ChangeShapes Go.WideShapes
set_option linter.unusedVariables false
set_option linter.unusedSimpArgs false

def rTail (q jt jf l : Int) : Int := if q == 4 && (decide (l ≤ jt) || decide (l ≤ jf)) then 42 else 0
/-- The document's answer, by the tests of the name. -/
def rOne (t1 t2 t3 t4 t5 t6 t7 t8 t9 : Bool) (q jt jf k l : Int) : Int :=
  if t1 then (if decide (60 < k) || decide (0 < k % 4) then 41 else rTail q jt jf l)
  else if t2 || t3 || t4 || t5 then (if decide (15 < k) then 43 else rTail q jt jf l)
  else if t6 then (if k == 0 then 44 else rTail q jt jf l)
  else if t7 || t8 then (if decide (31 < k) then 45 else rTail q jt jf l)
  else if t9 then (if decide (l ≤ k) then 42 else 0)
  else rTail q jt jf l
def nameIs (s : ByteArray) (t : List UInt8) : Bool := s.toList == t
def refOneE (i : Ins) (l : Int) : Int :=
  let e := (byO i.code).1
  if e.name.toList.isEmpty then 40 else
  rOne (nameIs e.name [108, 100, 97, 98, 115]) (nameIs e.name [108, 100, 109]) (nameIs e.name [108, 100, 120, 109]) (nameIs e.name [115, 116]) (nameIs e.name [115, 116, 120]) (nameIs e.name [100, 105, 118]) (nameIs e.name [108, 115, 104]) (nameIs e.name [114, 115, 104]) (nameIs e.name [106, 97]) e.cls i.jt i.jf i.k (max l 0)

end Go.Proofs.Ytkejcfbhikpibaa
