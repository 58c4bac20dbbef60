/-
  No cell of these rows narrows 'for every input' (looked for: loops, veiled, ifaces, maps, wideKeys, modest, calm, conditions, laid).
  DERIVED. THE GIVEN ROWS OF THIS SEAT. 9 by the template 'for every input the law returns true; each argument reads behind the call as it read before'; 0 by the template 'total and deterministic' (their statements: YtkejcfbhikpibaaTotals.lean).
  GIVEN WITH THE SEED: the statements are not yours to turn. If you find one false, say at which input.
  Laid BY PROGRAM, IN A SANDBOX (cutbox-rows.mjs): the forced cells as the released guide's own fill.sh prints them over the translation 7e3f661cb2011e2f… (all of the seat's roots in one cut). By AI agents, Wed Nov 11 2026. No macro, syntax, notation, axiom, sorry.
-/
import Derived.Test.YtkejcfbhikpibaaChecked
import GoSem.Claim
import GoSem.ClaimJoined
import GoSem.ClaimMapViews
import Derived.JoinedTies
import Derived.KernelRfl
namespace Go.Proofs.Ytkejcfbhikpibaa
/- THE CELL 'sum', in the pinned program and in every row, IS THE sha256 OF THE DUMP (.gsa) THAT YtkejcfbhikpibaaProg.lean LOADS. Nothing in Lean hashes anything: it is a label: what it is worth is what the hold of that sum in a sandbox is worth. -/
noncomputable def Try.pinned : Pinned := { name := "ytkejcfbhikpibaa", sum := "7e3f661cb2011e2f4a3d041e51e281defd0201083618c42019fc52f57399d8e6", checked := Try.checked }
namespace Rows
def none {H : Type} : Left H := { results := [], args := [] }

/-- 'vestibulelaw01.WordsCat': WHATEVER THE INPUT: true; the input reads as it did. -/
def wordsCatSpec : ChangeSpec := { name := "wordsCat", fn := fun _ => fun
  | [d] => { results := [.lit (.bool true)], args := [d] }
  | _ => none }
def wordsCatRow : OpenClaim := { program := "ytkejcfbhikpibaa", sum := "7e3f661cb2011e2f4a3d041e51e281defd0201083618c42019fc52f57399d8e6", func := "vestibule/vestibulelaw01.WordsCat", spec := "wordsCat", apart := false }
def WordsCatSaid : Prop := wordsCatRow.holds Try.pinned (OpenSpec.ofChange wordsCatSpec)

/-- ITS FALSE NEIGHBOUR: 'it returns false'. Refute it at one input. -/
def wordsCatWrong : ChangeSpec := { name := "wordsCat", fn := fun _ => fun
  | [d] => { results := [.lit (.bool false)], args := [d] }
  | _ => none }
def WordsCatWrongFalsely : Prop := wordsCatRow.holds Try.pinned (OpenSpec.ofChange wordsCatWrong)

/-- 'vestibulelaw04.VmOne': WHATEVER THE INPUT: true; the input reads as it did. -/
def vmOneSpec : ChangeSpec := { name := "vmOne", fn := fun _ => fun
  | [d1, d2, d3, d4, d5] => { results := [.lit (.bool true)], args := [d1, d2, d3, d4, d5] }
  | _ => none }
def vmOneRow : OpenClaim := { program := "ytkejcfbhikpibaa", sum := "7e3f661cb2011e2f4a3d041e51e281defd0201083618c42019fc52f57399d8e6", func := "vestibule/vestibulelaw04.VmOne", spec := "vmOne", unfollowed := true, recurses := true, apart := false }
def VmOneSaid : Prop := vmOneRow.holds Try.pinned (OpenSpec.ofChange vmOneSpec)

/-- ITS FALSE NEIGHBOUR: 'it returns false'. Refute it at one input. -/
def vmOneWrong : ChangeSpec := { name := "vmOne", fn := fun _ => fun
  | [d1, d2, d3, d4, d5] => { results := [.lit (.bool false)], args := [d1, d2, d3, d4, d5] }
  | _ => none }
def VmOneWrongFalsely : Prop := vmOneRow.holds Try.pinned (OpenSpec.ofChange vmOneWrong)

/-- 'vestibulelaw04.VmRuns': WHATEVER THE INPUT: true; the input reads as it did. -/
def vmRunsSpec : ChangeSpec := { name := "vmRuns", fn := fun _ => fun
  | [d1, d2] => { results := [.lit (.bool true)], args := [d1, d2] }
  | _ => none }
def vmRunsRow : OpenClaim := { program := "ytkejcfbhikpibaa", sum := "7e3f661cb2011e2f4a3d041e51e281defd0201083618c42019fc52f57399d8e6", func := "vestibule/vestibulelaw04.VmRuns", spec := "vmRuns", unfollowed := true, recurses := true, apart := false }
def VmRunsSaid : Prop := vmRunsRow.holds Try.pinned (OpenSpec.ofChange vmRunsSpec)

/-- ITS FALSE NEIGHBOUR: 'it returns false'. Refute it at one input. -/
def vmRunsWrong : ChangeSpec := { name := "vmRuns", fn := fun _ => fun
  | [d1, d2] => { results := [.lit (.bool false)], args := [d1, d2] }
  | _ => none }
def VmRunsWrongFalsely : Prop := vmRunsRow.holds Try.pinned (OpenSpec.ofChange vmRunsWrong)

/-- 'vestibulelaw04.VmEnds': WHATEVER THE INPUT: true; the input reads as it did. -/
def vmEndsSpec : ChangeSpec := { name := "vmEnds", fn := fun _ => fun
  | [d1, d2] => { results := [.lit (.bool true)], args := [d1, d2] }
  | _ => none }
def vmEndsRow : OpenClaim := { program := "ytkejcfbhikpibaa", sum := "7e3f661cb2011e2f4a3d041e51e281defd0201083618c42019fc52f57399d8e6", func := "vestibule/vestibulelaw04.VmEnds", spec := "vmEnds", unfollowed := true, recurses := true, apart := false }
def VmEndsSaid : Prop := vmEndsRow.holds Try.pinned (OpenSpec.ofChange vmEndsSpec)

/-- ITS FALSE NEIGHBOUR: 'it returns false'. Refute it at one input. -/
def vmEndsWrong : ChangeSpec := { name := "vmEnds", fn := fun _ => fun
  | [d1, d2] => { results := [.lit (.bool false)], args := [d1, d2] }
  | _ => none }
def VmEndsWrongFalsely : Prop := vmEndsRow.holds Try.pinned (OpenSpec.ofChange vmEndsWrong)

/-- 'vestibulelaw04.VmUnseen': WHATEVER THE INPUT: true; the input reads as it did. -/
def vmUnseenSpec : ChangeSpec := { name := "vmUnseen", fn := fun _ => fun
  | [d1, d2, d3, d4, d5, d6] => { results := [.lit (.bool true)], args := [d1, d2, d3, d4, d5, d6] }
  | _ => none }
def vmUnseenRow : OpenClaim := { program := "ytkejcfbhikpibaa", sum := "7e3f661cb2011e2f4a3d041e51e281defd0201083618c42019fc52f57399d8e6", func := "vestibule/vestibulelaw04.VmUnseen", spec := "vmUnseen", unfollowed := true, recurses := true, apart := false }
def VmUnseenSaid : Prop := vmUnseenRow.holds Try.pinned (OpenSpec.ofChange vmUnseenSpec)

/-- ITS FALSE NEIGHBOUR: 'it returns false'. Refute it at one input. -/
def vmUnseenWrong : ChangeSpec := { name := "vmUnseen", fn := fun _ => fun
  | [d1, d2, d3, d4, d5, d6] => { results := [.lit (.bool false)], args := [d1, d2, d3, d4, d5, d6] }
  | _ => none }
def VmUnseenWrongFalsely : Prop := vmUnseenRow.holds Try.pinned (OpenSpec.ofChange vmUnseenWrong)

/-- 'vestibulelaw04.VmBehind': WHATEVER THE INPUT: true; the input reads as it did. -/
def vmBehindSpec : ChangeSpec := { name := "vmBehind", fn := fun _ => fun
  | [d1, d2, d3] => { results := [.lit (.bool true)], args := [d1, d2, d3] }
  | _ => none }
def vmBehindRow : OpenClaim := { program := "ytkejcfbhikpibaa", sum := "7e3f661cb2011e2f4a3d041e51e281defd0201083618c42019fc52f57399d8e6", func := "vestibule/vestibulelaw04.VmBehind", spec := "vmBehind", unfollowed := true, recurses := true, apart := false }
def VmBehindSaid : Prop := vmBehindRow.holds Try.pinned (OpenSpec.ofChange vmBehindSpec)

/-- ITS FALSE NEIGHBOUR: 'it returns false'. Refute it at one input. -/
def vmBehindWrong : ChangeSpec := { name := "vmBehind", fn := fun _ => fun
  | [d1, d2, d3] => { results := [.lit (.bool false)], args := [d1, d2, d3] }
  | _ => none }
def VmBehindWrongFalsely : Prop := vmBehindRow.holds Try.pinned (OpenSpec.ofChange vmBehindWrong)

/-- 'vestibulelaw06.CheckHalts': WHATEVER THE INPUT: true; the input reads as it did. -/
def checkHaltsSpec : ChangeSpec := { name := "checkHalts", fn := fun _ => fun
  | [d1, d2] => { results := [.lit (.bool true)], args := [d1, d2] }
  | _ => none }
def checkHaltsRow : OpenClaim := { program := "ytkejcfbhikpibaa", sum := "7e3f661cb2011e2f4a3d041e51e281defd0201083618c42019fc52f57399d8e6", func := "vestibule/vestibulelaw06.CheckHalts", spec := "checkHalts", unfollowed := true, recurses := true, apart := false }
def CheckHaltsSaid : Prop := checkHaltsRow.holds Try.pinned (OpenSpec.ofChange checkHaltsSpec)

/-- ITS FALSE NEIGHBOUR: 'it returns false'. Refute it at one input. -/
def checkHaltsWrong : ChangeSpec := { name := "checkHalts", fn := fun _ => fun
  | [d1, d2] => { results := [.lit (.bool false)], args := [d1, d2] }
  | _ => none }
def CheckHaltsWrongFalsely : Prop := checkHaltsRow.holds Try.pinned (OpenSpec.ofChange checkHaltsWrong)

/-- 'vestibulelaw06.CheckErrors': WHATEVER THE INPUT: true; the input reads as it did. -/
def checkErrorsSpec : ChangeSpec := { name := "checkErrors", fn := fun _ => fun
  | [d1, d2] => { results := [.lit (.bool true)], args := [d1, d2] }
  | _ => none }
def checkErrorsRow : OpenClaim := { program := "ytkejcfbhikpibaa", sum := "7e3f661cb2011e2f4a3d041e51e281defd0201083618c42019fc52f57399d8e6", func := "vestibule/vestibulelaw06.CheckErrors", spec := "checkErrors", unfollowed := true, recurses := true, apart := false }
def CheckErrorsSaid : Prop := checkErrorsRow.holds Try.pinned (OpenSpec.ofChange checkErrorsSpec)

/-- ITS FALSE NEIGHBOUR: 'it returns false'. Refute it at one input. -/
def checkErrorsWrong : ChangeSpec := { name := "checkErrors", fn := fun _ => fun
  | [d1, d2] => { results := [.lit (.bool false)], args := [d1, d2] }
  | _ => none }
def CheckErrorsWrongFalsely : Prop := checkErrorsRow.holds Try.pinned (OpenSpec.ofChange checkErrorsWrong)

/-- 'vestibulelaw05.CellsDone': WHATEVER THE INPUT: true; the input reads as it did. -/
def cellsDoneSpec : ChangeSpec := { name := "cellsDone", fn := fun _ => fun
  | [d1, d2] => { results := [.lit (.bool true)], args := [d1, d2] }
  | _ => none }
def cellsDoneRow : OpenClaim := { program := "ytkejcfbhikpibaa", sum := "7e3f661cb2011e2f4a3d041e51e281defd0201083618c42019fc52f57399d8e6", func := "vestibule/vestibulelaw05.CellsDone", spec := "cellsDone", unfollowed := true, recurses := true, apart := false }
def CellsDoneSaid : Prop := cellsDoneRow.holds Try.pinned (OpenSpec.ofChange cellsDoneSpec)

/-- ITS FALSE NEIGHBOUR: 'it returns false'. Refute it at one input. -/
def cellsDoneWrong : ChangeSpec := { name := "cellsDone", fn := fun _ => fun
  | [d1, d2] => { results := [.lit (.bool false)], args := [d1, d2] }
  | _ => none }
def CellsDoneWrongFalsely : Prop := cellsDoneRow.holds Try.pinned (OpenSpec.ofChange cellsDoneWrong)

/- THE SECOND FORM. 'bulk': how many values and letters a reading holds, each counted each time it is reached (what is shared counts as often as it is met; a slice's spare places count too). A statement '..UptoSaid' is the law's where the arguments, and the package variables that the reading takes, are together of bulk at most 1048576: NARROWER than '..Said'. Prove '..Said' where nothing that the law and all that it calls make is longer than what came in: it says more and counts as full. Else prove '..UptoSaid'. A law counts once. -/
mutual
def uptoBulk {H : Type} : DataW H → Nat
  | .lit (.string bytes) => bytes.length + 1
  | .lit _ => 1
  | .nil => 1
  | .ptr d => uptoBulk d + 1
  | .slice elems spare => uptoBulkAll elems + uptoBulkAll spare + 1
  | .agg parts => uptoBulkAll parts + 1
  | .iface _ d => uptoBulk d + 1
  | .map entries => uptoBulkEntries entries + 1
  | .held _ => 1
def uptoBulkAll {H : Type} : List (DataW H) → Nat
  | [] => 0
  | d :: r => uptoBulk d + uptoBulkAll r
def uptoBulkEntries {H : Type} : List (Lit × DataW H) → Nat
  | [] => 0
  | x :: r => uptoBulkEntry x + uptoBulkEntries r
def uptoBulkEntry {H : Type} : Lit × DataW H → Nat
  | (.string bytes, d) => bytes.length + uptoBulk d + 1
  | (_, d) => uptoBulk d + 1
 end
def uptoSmall : (H : Type) → List (DataW H) → Bool := fun _ ds => decide (uptoBulkAll ds ≤ 1048576)
def OpenSpec.upto (s : _root_.Go.ChangeSpec) : _root_.Go.OpenSpec := { _root_.Go.OpenSpec.ofChange s with cond := some uptoSmall }

/-- 'vestibulelaw01.WordsCat', WHERE WHAT IT READS IS OF BULK AT MOST 1048576: true; the input reads as it did. -/
def wordsCatUptoRow : OpenClaim := { program := "ytkejcfbhikpibaa", sum := "7e3f661cb2011e2f4a3d041e51e281defd0201083618c42019fc52f57399d8e6", func := "vestibule/vestibulelaw01.WordsCat", spec := "wordsCat", apart := false, narrowed := true }
def WordsCatUptoSaid : Prop := wordsCatUptoRow.holds Try.pinned (OpenSpec.upto wordsCatSpec)

/-- 'vestibulelaw04.VmOne', WHERE WHAT IT READS IS OF BULK AT MOST 1048576: true; the input reads as it did. -/
def vmOneUptoRow : OpenClaim := { program := "ytkejcfbhikpibaa", sum := "7e3f661cb2011e2f4a3d041e51e281defd0201083618c42019fc52f57399d8e6", func := "vestibule/vestibulelaw04.VmOne", spec := "vmOne", unfollowed := true, recurses := true, apart := false, narrowed := true }
def VmOneUptoSaid : Prop := vmOneUptoRow.holds Try.pinned (OpenSpec.upto vmOneSpec)

/-- 'vestibulelaw04.VmRuns', WHERE WHAT IT READS IS OF BULK AT MOST 1048576: true; the input reads as it did. -/
def vmRunsUptoRow : OpenClaim := { program := "ytkejcfbhikpibaa", sum := "7e3f661cb2011e2f4a3d041e51e281defd0201083618c42019fc52f57399d8e6", func := "vestibule/vestibulelaw04.VmRuns", spec := "vmRuns", unfollowed := true, recurses := true, apart := false, narrowed := true }
def VmRunsUptoSaid : Prop := vmRunsUptoRow.holds Try.pinned (OpenSpec.upto vmRunsSpec)

/-- 'vestibulelaw04.VmEnds', WHERE WHAT IT READS IS OF BULK AT MOST 1048576: true; the input reads as it did. -/
def vmEndsUptoRow : OpenClaim := { program := "ytkejcfbhikpibaa", sum := "7e3f661cb2011e2f4a3d041e51e281defd0201083618c42019fc52f57399d8e6", func := "vestibule/vestibulelaw04.VmEnds", spec := "vmEnds", unfollowed := true, recurses := true, apart := false, narrowed := true }
def VmEndsUptoSaid : Prop := vmEndsUptoRow.holds Try.pinned (OpenSpec.upto vmEndsSpec)

/-- 'vestibulelaw04.VmUnseen', WHERE WHAT IT READS IS OF BULK AT MOST 1048576: true; the input reads as it did. -/
def vmUnseenUptoRow : OpenClaim := { program := "ytkejcfbhikpibaa", sum := "7e3f661cb2011e2f4a3d041e51e281defd0201083618c42019fc52f57399d8e6", func := "vestibule/vestibulelaw04.VmUnseen", spec := "vmUnseen", unfollowed := true, recurses := true, apart := false, narrowed := true }
def VmUnseenUptoSaid : Prop := vmUnseenUptoRow.holds Try.pinned (OpenSpec.upto vmUnseenSpec)

/-- 'vestibulelaw04.VmBehind', WHERE WHAT IT READS IS OF BULK AT MOST 1048576: true; the input reads as it did. -/
def vmBehindUptoRow : OpenClaim := { program := "ytkejcfbhikpibaa", sum := "7e3f661cb2011e2f4a3d041e51e281defd0201083618c42019fc52f57399d8e6", func := "vestibule/vestibulelaw04.VmBehind", spec := "vmBehind", unfollowed := true, recurses := true, apart := false, narrowed := true }
def VmBehindUptoSaid : Prop := vmBehindUptoRow.holds Try.pinned (OpenSpec.upto vmBehindSpec)

/-- 'vestibulelaw06.CheckHalts', WHERE WHAT IT READS IS OF BULK AT MOST 1048576: true; the input reads as it did. -/
def checkHaltsUptoRow : OpenClaim := { program := "ytkejcfbhikpibaa", sum := "7e3f661cb2011e2f4a3d041e51e281defd0201083618c42019fc52f57399d8e6", func := "vestibule/vestibulelaw06.CheckHalts", spec := "checkHalts", unfollowed := true, recurses := true, apart := false, narrowed := true }
def CheckHaltsUptoSaid : Prop := checkHaltsUptoRow.holds Try.pinned (OpenSpec.upto checkHaltsSpec)

/-- 'vestibulelaw06.CheckErrors', WHERE WHAT IT READS IS OF BULK AT MOST 1048576: true; the input reads as it did. -/
def checkErrorsUptoRow : OpenClaim := { program := "ytkejcfbhikpibaa", sum := "7e3f661cb2011e2f4a3d041e51e281defd0201083618c42019fc52f57399d8e6", func := "vestibule/vestibulelaw06.CheckErrors", spec := "checkErrors", unfollowed := true, recurses := true, apart := false, narrowed := true }
def CheckErrorsUptoSaid : Prop := checkErrorsUptoRow.holds Try.pinned (OpenSpec.upto checkErrorsSpec)

/-- 'vestibulelaw05.CellsDone', WHERE WHAT IT READS IS OF BULK AT MOST 1048576: true; the input reads as it did. -/
def cellsDoneUptoRow : OpenClaim := { program := "ytkejcfbhikpibaa", sum := "7e3f661cb2011e2f4a3d041e51e281defd0201083618c42019fc52f57399d8e6", func := "vestibule/vestibulelaw05.CellsDone", spec := "cellsDone", unfollowed := true, recurses := true, apart := false, narrowed := true }
def CellsDoneUptoSaid : Prop := cellsDoneUptoRow.holds Try.pinned (OpenSpec.upto cellsDoneSpec)

end Rows
end Go.Proofs.Ytkejcfbhikpibaa
