/-
  No cell of these rows narrows 'for every input' (looked for: loops, veiled, ifaces, maps, wideKeys, modest, calm, conditions, laid).
  DERIVED. THE GIVEN ROWS OF THIS SEAT. 18 by the template 'for every input the law returns true; each argument reads behind the call as it read before'; 0 by the template 'total and deterministic' (their statements: YtlicndonhmcmmaaTotals.lean).
  GIVEN WITH THE SEED: the statements are not yours to turn. If you find one false, say at which input.
  Laid BY PROGRAM, IN A SANDBOX (cutbox-rows.mjs): the forced cells as the released guide's own fill.sh prints them over the translation 2ada2f5ec87f4bb1… (all of the seat's roots in one cut). By AI agents, Wed Nov 11 2026. No macro, syntax, notation, axiom, sorry.
-/
import Derived.Test.YtlicndonhmcmmaaChecked
import GoSem.Claim
import GoSem.ClaimJoined
import GoSem.ClaimMapViews
import Derived.JoinedTies
import Derived.KernelRfl
namespace Go.Proofs.Ytlicndonhmcmmaa
/- THE CELL 'sum', in the pinned program and in every row, IS THE sha256 OF THE DUMP (.gsa) THAT YtlicndonhmcmmaaProg.lean LOADS. Nothing in Lean hashes anything: it is a label: what it is worth is what the hold of that sum in a sandbox is worth. -/
noncomputable def Try.pinned : Pinned := { name := "ytlicndonhmcmmaa", sum := "2ada2f5ec87f4bb1ced5e9547d8b9ca46fe10520a383291fda6997304dd6ca1f", checked := Try.checked }
namespace Rows
def none {H : Type} : Left H := { results := [], args := [] }

/-- 'vestibulelaw01.WordsPut': WHATEVER THE INPUT: true; the input reads as it did. -/
def wordsPutSpec : ChangeSpec := { name := "wordsPut", fn := fun _ => fun
  | [d] => { results := [.lit (.bool true)], args := [d] }
  | _ => none }
def wordsPutRow : OpenClaim := { program := "ytlicndonhmcmmaa", sum := "2ada2f5ec87f4bb1ced5e9547d8b9ca46fe10520a383291fda6997304dd6ca1f", func := "vestibule/vestibulelaw01.WordsPut", spec := "wordsPut", apart := false }
def WordsPutSaid : Prop := wordsPutRow.holds Try.pinned (OpenSpec.ofChange wordsPutSpec)

/-- ITS FALSE NEIGHBOUR: 'it returns false'. Refute it at one input. -/
def wordsPutWrong : ChangeSpec := { name := "wordsPut", fn := fun _ => fun
  | [d] => { results := [.lit (.bool false)], args := [d] }
  | _ => none }
def WordsPutWrongFalsely : Prop := wordsPutRow.holds Try.pinned (OpenSpec.ofChange wordsPutWrong)

/-- 'vestibulelaw01.WordsGet': WHATEVER THE INPUT: true; the input reads as it did. -/
def wordsGetSpec : ChangeSpec := { name := "wordsGet", fn := fun _ => fun
  | [d1, d2] => { results := [.lit (.bool true)], args := [d1, d2] }
  | _ => none }
def wordsGetRow : OpenClaim := { program := "ytlicndonhmcmmaa", sum := "2ada2f5ec87f4bb1ced5e9547d8b9ca46fe10520a383291fda6997304dd6ca1f", func := "vestibule/vestibulelaw01.WordsGet", spec := "wordsGet", apart := false }
def WordsGetSaid : Prop := wordsGetRow.holds Try.pinned (OpenSpec.ofChange wordsGetSpec)

/-- ITS FALSE NEIGHBOUR: 'it returns false'. Refute it at one input. -/
def wordsGetWrong : ChangeSpec := { name := "wordsGet", fn := fun _ => fun
  | [d1, d2] => { results := [.lit (.bool false)], args := [d1, d2] }
  | _ => none }
def WordsGetWrongFalsely : Prop := wordsGetRow.holds Try.pinned (OpenSpec.ofChange wordsGetWrong)

/-- 'vestibulelaw03.DataArgs': WHATEVER THE INPUT: true; the input reads as it did. -/
def dataArgsSpec : ChangeSpec := { name := "dataArgs", fn := fun _ => fun
  | [d1, d2] => { results := [.lit (.bool true)], args := [d1, d2] }
  | _ => none }
def dataArgsRow : OpenClaim := { program := "ytlicndonhmcmmaa", sum := "2ada2f5ec87f4bb1ced5e9547d8b9ca46fe10520a383291fda6997304dd6ca1f", func := "vestibule/vestibulelaw03.DataArgs", spec := "dataArgs", apart := false }
def DataArgsSaid : Prop := dataArgsRow.holds Try.pinned (OpenSpec.ofChange dataArgsSpec)

/-- ITS FALSE NEIGHBOUR: 'it returns false'. Refute it at one input. -/
def dataArgsWrong : ChangeSpec := { name := "dataArgs", fn := fun _ => fun
  | [d1, d2] => { results := [.lit (.bool false)], args := [d1, d2] }
  | _ => none }
def DataArgsWrongFalsely : Prop := dataArgsRow.holds Try.pinned (OpenSpec.ofChange dataArgsWrong)

/-- 'vestibulelaw03.DataParse': WHATEVER THE INPUT: true; the input reads as it did. -/
def dataParseSpec : ChangeSpec := { name := "dataParse", fn := fun _ => fun
  | [d] => { results := [.lit (.bool true)], args := [d] }
  | _ => none }
def dataParseRow : OpenClaim := { program := "ytlicndonhmcmmaa", sum := "2ada2f5ec87f4bb1ced5e9547d8b9ca46fe10520a383291fda6997304dd6ca1f", func := "vestibule/vestibulelaw03.DataParse", spec := "dataParse", apart := false }
def DataParseSaid : Prop := dataParseRow.holds Try.pinned (OpenSpec.ofChange dataParseSpec)

/-- ITS FALSE NEIGHBOUR: 'it returns false'. Refute it at one input. -/
def dataParseWrong : ChangeSpec := { name := "dataParse", fn := fun _ => fun
  | [d] => { results := [.lit (.bool false)], args := [d] }
  | _ => none }
def DataParseWrongFalsely : Prop := dataParseRow.holds Try.pinned (OpenSpec.ofChange dataParseWrong)

/-- 'vestibulelaw01.WordsBack': WHATEVER THE INPUT: true; the input reads as it did. -/
def wordsBackSpec : ChangeSpec := { name := "wordsBack", fn := fun _ => fun
  | [d1, d2, d3] => { results := [.lit (.bool true)], args := [d1, d2, d3] }
  | _ => none }
def wordsBackRow : OpenClaim := { program := "ytlicndonhmcmmaa", sum := "2ada2f5ec87f4bb1ced5e9547d8b9ca46fe10520a383291fda6997304dd6ca1f", func := "vestibule/vestibulelaw01.WordsBack", spec := "wordsBack", apart := false }
def WordsBackSaid : Prop := wordsBackRow.holds Try.pinned (OpenSpec.ofChange wordsBackSpec)

/-- ITS FALSE NEIGHBOUR: 'it returns false'. Refute it at one input. -/
def wordsBackWrong : ChangeSpec := { name := "wordsBack", fn := fun _ => fun
  | [d1, d2, d3] => { results := [.lit (.bool false)], args := [d1, d2, d3] }
  | _ => none }
def WordsBackWrongFalsely : Prop := wordsBackRow.holds Try.pinned (OpenSpec.ofChange wordsBackWrong)

/-- 'vestibulelaw03.DataPrint': WHATEVER THE INPUT: true; the input reads as it did. -/
def dataPrintSpec : ChangeSpec := { name := "dataPrint", fn := fun _ => fun
  | [d1, d2] => { results := [.lit (.bool true)], args := [d1, d2] }
  | _ => none }
def dataPrintRow : OpenClaim := { program := "ytlicndonhmcmmaa", sum := "2ada2f5ec87f4bb1ced5e9547d8b9ca46fe10520a383291fda6997304dd6ca1f", func := "vestibule/vestibulelaw03.DataPrint", spec := "dataPrint", apart := false }
def DataPrintSaid : Prop := dataPrintRow.holds Try.pinned (OpenSpec.ofChange dataPrintSpec)

/-- ITS FALSE NEIGHBOUR: 'it returns false'. Refute it at one input. -/
def dataPrintWrong : ChangeSpec := { name := "dataPrint", fn := fun _ => fun
  | [d1, d2] => { results := [.lit (.bool false)], args := [d1, d2] }
  | _ => none }
def DataPrintWrongFalsely : Prop := dataPrintRow.holds Try.pinned (OpenSpec.ofChange dataPrintWrong)

/-- 'vestibulelaw01.WordsCat': WHATEVER THE INPUT: true; the input reads as it did. -/
def wordsCatSpec : ChangeSpec := { name := "wordsCat", fn := fun _ => fun
  | [d] => { results := [.lit (.bool true)], args := [d] }
  | _ => none }
def wordsCatRow : OpenClaim := { program := "ytlicndonhmcmmaa", sum := "2ada2f5ec87f4bb1ced5e9547d8b9ca46fe10520a383291fda6997304dd6ca1f", func := "vestibule/vestibulelaw01.WordsCat", spec := "wordsCat", apart := false }
def WordsCatSaid : Prop := wordsCatRow.holds Try.pinned (OpenSpec.ofChange wordsCatSpec)

/-- ITS FALSE NEIGHBOUR: 'it returns false'. Refute it at one input. -/
def wordsCatWrong : ChangeSpec := { name := "wordsCat", fn := fun _ => fun
  | [d] => { results := [.lit (.bool false)], args := [d] }
  | _ => none }
def WordsCatWrongFalsely : Prop := wordsCatRow.holds Try.pinned (OpenSpec.ofChange wordsCatWrong)

/-- 'vestibulelaw03.DataWords': WHATEVER THE INPUT: true; the input reads as it did. -/
def dataWordsSpec : ChangeSpec := { name := "dataWords", fn := fun _ => fun
  | [d1, d2] => { results := [.lit (.bool true)], args := [d1, d2] }
  | _ => none }
def dataWordsRow : OpenClaim := { program := "ytlicndonhmcmmaa", sum := "2ada2f5ec87f4bb1ced5e9547d8b9ca46fe10520a383291fda6997304dd6ca1f", func := "vestibule/vestibulelaw03.DataWords", spec := "dataWords", apart := false }
def DataWordsSaid : Prop := dataWordsRow.holds Try.pinned (OpenSpec.ofChange dataWordsSpec)

/-- ITS FALSE NEIGHBOUR: 'it returns false'. Refute it at one input. -/
def dataWordsWrong : ChangeSpec := { name := "dataWords", fn := fun _ => fun
  | [d1, d2] => { results := [.lit (.bool false)], args := [d1, d2] }
  | _ => none }
def DataWordsWrongFalsely : Prop := dataWordsRow.holds Try.pinned (OpenSpec.ofChange dataWordsWrong)

/-- 'vestibulelaw02.InsnParse': WHATEVER THE INPUT: true; the input reads as it did. -/
def insnParseSpec : ChangeSpec := { name := "insnParse", fn := fun _ => fun
  | [d] => { results := [.lit (.bool true)], args := [d] }
  | _ => none }
def insnParseRow : OpenClaim := { program := "ytlicndonhmcmmaa", sum := "2ada2f5ec87f4bb1ced5e9547d8b9ca46fe10520a383291fda6997304dd6ca1f", func := "vestibule/vestibulelaw02.InsnParse", spec := "insnParse", unfollowed := true, recurses := true, apart := false }
def InsnParseSaid : Prop := insnParseRow.holds Try.pinned (OpenSpec.ofChange insnParseSpec)

/-- ITS FALSE NEIGHBOUR: 'it returns false'. Refute it at one input. -/
def insnParseWrong : ChangeSpec := { name := "insnParse", fn := fun _ => fun
  | [d] => { results := [.lit (.bool false)], args := [d] }
  | _ => none }
def InsnParseWrongFalsely : Prop := insnParseRow.holds Try.pinned (OpenSpec.ofChange insnParseWrong)

/-- 'vestibulelaw01.WordsShift': WHATEVER THE INPUT: true; the input reads as it did. -/
def wordsShiftSpec : ChangeSpec := { name := "wordsShift", fn := fun _ => fun
  | [d1, d2, d3] => { results := [.lit (.bool true)], args := [d1, d2, d3] }
  | _ => none }
def wordsShiftRow : OpenClaim := { program := "ytlicndonhmcmmaa", sum := "2ada2f5ec87f4bb1ced5e9547d8b9ca46fe10520a383291fda6997304dd6ca1f", func := "vestibule/vestibulelaw01.WordsShift", spec := "wordsShift", apart := false }
def WordsShiftSaid : Prop := wordsShiftRow.holds Try.pinned (OpenSpec.ofChange wordsShiftSpec)

/-- ITS FALSE NEIGHBOUR: 'it returns false'. Refute it at one input. -/
def wordsShiftWrong : ChangeSpec := { name := "wordsShift", fn := fun _ => fun
  | [d1, d2, d3] => { results := [.lit (.bool false)], args := [d1, d2, d3] }
  | _ => none }
def WordsShiftWrongFalsely : Prop := wordsShiftRow.holds Try.pinned (OpenSpec.ofChange wordsShiftWrong)

/-- 'vestibulelaw01.WordsHalves': WHATEVER THE INPUT: true; the input reads as it did. -/
def wordsHalvesSpec : ChangeSpec := { name := "wordsHalves", fn := fun _ => fun
  | [d1, d2] => { results := [.lit (.bool true)], args := [d1, d2] }
  | _ => none }
def wordsHalvesRow : OpenClaim := { program := "ytlicndonhmcmmaa", sum := "2ada2f5ec87f4bb1ced5e9547d8b9ca46fe10520a383291fda6997304dd6ca1f", func := "vestibule/vestibulelaw01.WordsHalves", spec := "wordsHalves", apart := false }
def WordsHalvesSaid : Prop := wordsHalvesRow.holds Try.pinned (OpenSpec.ofChange wordsHalvesSpec)

/-- ITS FALSE NEIGHBOUR: 'it returns false'. Refute it at one input. -/
def wordsHalvesWrong : ChangeSpec := { name := "wordsHalves", fn := fun _ => fun
  | [d1, d2] => { results := [.lit (.bool false)], args := [d1, d2] }
  | _ => none }
def WordsHalvesWrongFalsely : Prop := wordsHalvesRow.holds Try.pinned (OpenSpec.ofChange wordsHalvesWrong)

/-- 'vestibulelaw02.InsnPrint': WHATEVER THE INPUT: true; the input reads as it did. -/
def insnPrintSpec : ChangeSpec := { name := "insnPrint", fn := fun _ => fun
  | [d] => { results := [.lit (.bool true)], args := [d] }
  | _ => none }
def insnPrintRow : OpenClaim := { program := "ytlicndonhmcmmaa", sum := "2ada2f5ec87f4bb1ced5e9547d8b9ca46fe10520a383291fda6997304dd6ca1f", func := "vestibule/vestibulelaw02.InsnPrint", spec := "insnPrint", unfollowed := true, recurses := true, apart := false }
def InsnPrintSaid : Prop := insnPrintRow.holds Try.pinned (OpenSpec.ofChange insnPrintSpec)

/-- ITS FALSE NEIGHBOUR: 'it returns false'. Refute it at one input. -/
def insnPrintWrong : ChangeSpec := { name := "insnPrint", fn := fun _ => fun
  | [d] => { results := [.lit (.bool false)], args := [d] }
  | _ => none }
def InsnPrintWrongFalsely : Prop := insnPrintRow.holds Try.pinned (OpenSpec.ofChange insnPrintWrong)

/-- 'vestibulelaw03.DataBack': WHATEVER THE INPUT: true; the input reads as it did. -/
def dataBackSpec : ChangeSpec := { name := "dataBack", fn := fun _ => fun
  | [d1, d2] => { results := [.lit (.bool true)], args := [d1, d2] }
  | _ => none }
def dataBackRow : OpenClaim := { program := "ytlicndonhmcmmaa", sum := "2ada2f5ec87f4bb1ced5e9547d8b9ca46fe10520a383291fda6997304dd6ca1f", func := "vestibule/vestibulelaw03.DataBack", spec := "dataBack", apart := false }
def DataBackSaid : Prop := dataBackRow.holds Try.pinned (OpenSpec.ofChange dataBackSpec)

/-- ITS FALSE NEIGHBOUR: 'it returns false'. Refute it at one input. -/
def dataBackWrong : ChangeSpec := { name := "dataBack", fn := fun _ => fun
  | [d1, d2] => { results := [.lit (.bool false)], args := [d1, d2] }
  | _ => none }
def DataBackWrongFalsely : Prop := dataBackRow.holds Try.pinned (OpenSpec.ofChange dataBackWrong)

/-- 'vestibulelaw02.InsnCodes': WHATEVER THE INPUT: true; the input reads as it did. -/
def insnCodesSpec : ChangeSpec := { name := "insnCodes", fn := fun _ => fun
  | [d1, d2] => { results := [.lit (.bool true)], args := [d1, d2] }
  | _ => none }
def insnCodesRow : OpenClaim := { program := "ytlicndonhmcmmaa", sum := "2ada2f5ec87f4bb1ced5e9547d8b9ca46fe10520a383291fda6997304dd6ca1f", func := "vestibule/vestibulelaw02.InsnCodes", spec := "insnCodes", unfollowed := true, recurses := true, apart := false }
def InsnCodesSaid : Prop := insnCodesRow.holds Try.pinned (OpenSpec.ofChange insnCodesSpec)

/-- ITS FALSE NEIGHBOUR: 'it returns false'. Refute it at one input. -/
def insnCodesWrong : ChangeSpec := { name := "insnCodes", fn := fun _ => fun
  | [d1, d2] => { results := [.lit (.bool false)], args := [d1, d2] }
  | _ => none }
def InsnCodesWrongFalsely : Prop := insnCodesRow.holds Try.pinned (OpenSpec.ofChange insnCodesWrong)

/-- 'vestibulelaw02.InsnLimit': WHATEVER THE INPUT: true; the input reads as it did. -/
def insnLimitSpec : ChangeSpec := { name := "insnLimit", fn := fun _ => fun
  | [d] => { results := [.lit (.bool true)], args := [d] }
  | _ => none }
def insnLimitRow : OpenClaim := { program := "ytlicndonhmcmmaa", sum := "2ada2f5ec87f4bb1ced5e9547d8b9ca46fe10520a383291fda6997304dd6ca1f", func := "vestibule/vestibulelaw02.InsnLimit", spec := "insnLimit", unfollowed := true, recurses := true, apart := false }
def InsnLimitSaid : Prop := insnLimitRow.holds Try.pinned (OpenSpec.ofChange insnLimitSpec)

/-- ITS FALSE NEIGHBOUR: 'it returns false'. Refute it at one input. -/
def insnLimitWrong : ChangeSpec := { name := "insnLimit", fn := fun _ => fun
  | [d] => { results := [.lit (.bool false)], args := [d] }
  | _ => none }
def InsnLimitWrongFalsely : Prop := insnLimitRow.holds Try.pinned (OpenSpec.ofChange insnLimitWrong)

/-- 'vestibulelaw02.InsnNames': WHATEVER THE INPUT: true; the input reads as it did. -/
def insnNamesSpec : ChangeSpec := { name := "insnNames", fn := fun _ => fun
  | [d1, d2] => { results := [.lit (.bool true)], args := [d1, d2] }
  | _ => none }
def insnNamesRow : OpenClaim := { program := "ytlicndonhmcmmaa", sum := "2ada2f5ec87f4bb1ced5e9547d8b9ca46fe10520a383291fda6997304dd6ca1f", func := "vestibule/vestibulelaw02.InsnNames", spec := "insnNames", unfollowed := true, recurses := true, apart := false }
def InsnNamesSaid : Prop := insnNamesRow.holds Try.pinned (OpenSpec.ofChange insnNamesSpec)

/-- ITS FALSE NEIGHBOUR: 'it returns false'. Refute it at one input. -/
def insnNamesWrong : ChangeSpec := { name := "insnNames", fn := fun _ => fun
  | [d1, d2] => { results := [.lit (.bool false)], args := [d1, d2] }
  | _ => none }
def InsnNamesWrongFalsely : Prop := insnNamesRow.holds Try.pinned (OpenSpec.ofChange insnNamesWrong)

/-- 'vestibulelaw02.InsnBack': WHATEVER THE INPUT: true; the input reads as it did. -/
def insnBackSpec : ChangeSpec := { name := "insnBack", fn := fun _ => fun
  | [d1, d2] => { results := [.lit (.bool true)], args := [d1, d2] }
  | _ => none }
def insnBackRow : OpenClaim := { program := "ytlicndonhmcmmaa", sum := "2ada2f5ec87f4bb1ced5e9547d8b9ca46fe10520a383291fda6997304dd6ca1f", func := "vestibule/vestibulelaw02.InsnBack", spec := "insnBack", unfollowed := true, recurses := true, apart := false }
def InsnBackSaid : Prop := insnBackRow.holds Try.pinned (OpenSpec.ofChange insnBackSpec)

/-- ITS FALSE NEIGHBOUR: 'it returns false'. Refute it at one input. -/
def insnBackWrong : ChangeSpec := { name := "insnBack", fn := fun _ => fun
  | [d1, d2] => { results := [.lit (.bool false)], args := [d1, d2] }
  | _ => none }
def InsnBackWrongFalsely : Prop := insnBackRow.holds Try.pinned (OpenSpec.ofChange insnBackWrong)

/-- 'vestibulelaw02.InsnPieces': WHATEVER THE INPUT: true; the input reads as it did. -/
def insnPiecesSpec : ChangeSpec := { name := "insnPieces", fn := fun _ => fun
  | [d1, d2, d3] => { results := [.lit (.bool true)], args := [d1, d2, d3] }
  | _ => none }
def insnPiecesRow : OpenClaim := { program := "ytlicndonhmcmmaa", sum := "2ada2f5ec87f4bb1ced5e9547d8b9ca46fe10520a383291fda6997304dd6ca1f", func := "vestibule/vestibulelaw02.InsnPieces", spec := "insnPieces", unfollowed := true, recurses := true, apart := false }
def InsnPiecesSaid : Prop := insnPiecesRow.holds Try.pinned (OpenSpec.ofChange insnPiecesSpec)

/-- ITS FALSE NEIGHBOUR: 'it returns false'. Refute it at one input. -/
def insnPiecesWrong : ChangeSpec := { name := "insnPieces", fn := fun _ => fun
  | [d1, d2, d3] => { results := [.lit (.bool false)], args := [d1, d2, d3] }
  | _ => none }
def InsnPiecesWrongFalsely : Prop := insnPiecesRow.holds Try.pinned (OpenSpec.ofChange insnPiecesWrong)

/- THE SECOND FORM. 'bulk': how many values and letters a reading holds, each counted each time it is reached (what is shared counts as often as it is met; a slice's spare places count too). A statement '..UptoSaid' is the law's where the arguments, and the package variables that the reading takes, are together of bulk at most 1048576: NARROWER than '..Said'. Prove '..Said' where nothing that the law and all that it calls make is longer than what came in: it says more and counts as full. Else prove '..UptoSaid'. A law counts once. -/
mutual
def uptoBulk {H : Type} : DataW H → Nat
  | .lit (.string bytes) => bytes.length + 1
  | .lit _ => 1
  | .nil => 1
  | .ptr d => uptoBulk d + 1
  | .slice elems spare => uptoBulkAll elems + uptoBulkAll spare + 1
  | .agg parts => uptoBulkAll parts + 1
  | .iface _ d => uptoBulk d + 1
  | .map entries => uptoBulkEntries entries + 1
  | .held _ => 1
def uptoBulkAll {H : Type} : List (DataW H) → Nat
  | [] => 0
  | d :: r => uptoBulk d + uptoBulkAll r
def uptoBulkEntries {H : Type} : List (Lit × DataW H) → Nat
  | [] => 0
  | x :: r => uptoBulkEntry x + uptoBulkEntries r
def uptoBulkEntry {H : Type} : Lit × DataW H → Nat
  | (.string bytes, d) => bytes.length + uptoBulk d + 1
  | (_, d) => uptoBulk d + 1
 end
def uptoSmall : (H : Type) → List (DataW H) → Bool := fun _ ds => decide (uptoBulkAll ds ≤ 1048576)
def OpenSpec.upto (s : _root_.Go.ChangeSpec) : _root_.Go.OpenSpec := { _root_.Go.OpenSpec.ofChange s with cond := some uptoSmall }

/-- 'vestibulelaw01.WordsPut', WHERE WHAT IT READS IS OF BULK AT MOST 1048576: true; the input reads as it did. -/
def wordsPutUptoRow : OpenClaim := { program := "ytlicndonhmcmmaa", sum := "2ada2f5ec87f4bb1ced5e9547d8b9ca46fe10520a383291fda6997304dd6ca1f", func := "vestibule/vestibulelaw01.WordsPut", spec := "wordsPut", apart := false, narrowed := true }
def WordsPutUptoSaid : Prop := wordsPutUptoRow.holds Try.pinned (OpenSpec.upto wordsPutSpec)

/-- 'vestibulelaw01.WordsGet', WHERE WHAT IT READS IS OF BULK AT MOST 1048576: true; the input reads as it did. -/
def wordsGetUptoRow : OpenClaim := { program := "ytlicndonhmcmmaa", sum := "2ada2f5ec87f4bb1ced5e9547d8b9ca46fe10520a383291fda6997304dd6ca1f", func := "vestibule/vestibulelaw01.WordsGet", spec := "wordsGet", apart := false, narrowed := true }
def WordsGetUptoSaid : Prop := wordsGetUptoRow.holds Try.pinned (OpenSpec.upto wordsGetSpec)

/-- 'vestibulelaw03.DataArgs', WHERE WHAT IT READS IS OF BULK AT MOST 1048576: true; the input reads as it did. -/
def dataArgsUptoRow : OpenClaim := { program := "ytlicndonhmcmmaa", sum := "2ada2f5ec87f4bb1ced5e9547d8b9ca46fe10520a383291fda6997304dd6ca1f", func := "vestibule/vestibulelaw03.DataArgs", spec := "dataArgs", apart := false, narrowed := true }
def DataArgsUptoSaid : Prop := dataArgsUptoRow.holds Try.pinned (OpenSpec.upto dataArgsSpec)

/-- 'vestibulelaw03.DataParse', WHERE WHAT IT READS IS OF BULK AT MOST 1048576: true; the input reads as it did. -/
def dataParseUptoRow : OpenClaim := { program := "ytlicndonhmcmmaa", sum := "2ada2f5ec87f4bb1ced5e9547d8b9ca46fe10520a383291fda6997304dd6ca1f", func := "vestibule/vestibulelaw03.DataParse", spec := "dataParse", apart := false, narrowed := true }
def DataParseUptoSaid : Prop := dataParseUptoRow.holds Try.pinned (OpenSpec.upto dataParseSpec)

/-- 'vestibulelaw01.WordsBack', WHERE WHAT IT READS IS OF BULK AT MOST 1048576: true; the input reads as it did. -/
def wordsBackUptoRow : OpenClaim := { program := "ytlicndonhmcmmaa", sum := "2ada2f5ec87f4bb1ced5e9547d8b9ca46fe10520a383291fda6997304dd6ca1f", func := "vestibule/vestibulelaw01.WordsBack", spec := "wordsBack", apart := false, narrowed := true }
def WordsBackUptoSaid : Prop := wordsBackUptoRow.holds Try.pinned (OpenSpec.upto wordsBackSpec)

/-- 'vestibulelaw03.DataPrint', WHERE WHAT IT READS IS OF BULK AT MOST 1048576: true; the input reads as it did. -/
def dataPrintUptoRow : OpenClaim := { program := "ytlicndonhmcmmaa", sum := "2ada2f5ec87f4bb1ced5e9547d8b9ca46fe10520a383291fda6997304dd6ca1f", func := "vestibule/vestibulelaw03.DataPrint", spec := "dataPrint", apart := false, narrowed := true }
def DataPrintUptoSaid : Prop := dataPrintUptoRow.holds Try.pinned (OpenSpec.upto dataPrintSpec)

/-- 'vestibulelaw01.WordsCat', WHERE WHAT IT READS IS OF BULK AT MOST 1048576: true; the input reads as it did. -/
def wordsCatUptoRow : OpenClaim := { program := "ytlicndonhmcmmaa", sum := "2ada2f5ec87f4bb1ced5e9547d8b9ca46fe10520a383291fda6997304dd6ca1f", func := "vestibule/vestibulelaw01.WordsCat", spec := "wordsCat", apart := false, narrowed := true }
def WordsCatUptoSaid : Prop := wordsCatUptoRow.holds Try.pinned (OpenSpec.upto wordsCatSpec)

/-- 'vestibulelaw03.DataWords', WHERE WHAT IT READS IS OF BULK AT MOST 1048576: true; the input reads as it did. -/
def dataWordsUptoRow : OpenClaim := { program := "ytlicndonhmcmmaa", sum := "2ada2f5ec87f4bb1ced5e9547d8b9ca46fe10520a383291fda6997304dd6ca1f", func := "vestibule/vestibulelaw03.DataWords", spec := "dataWords", apart := false, narrowed := true }
def DataWordsUptoSaid : Prop := dataWordsUptoRow.holds Try.pinned (OpenSpec.upto dataWordsSpec)

/-- 'vestibulelaw02.InsnParse', WHERE WHAT IT READS IS OF BULK AT MOST 1048576: true; the input reads as it did. -/
def insnParseUptoRow : OpenClaim := { program := "ytlicndonhmcmmaa", sum := "2ada2f5ec87f4bb1ced5e9547d8b9ca46fe10520a383291fda6997304dd6ca1f", func := "vestibule/vestibulelaw02.InsnParse", spec := "insnParse", unfollowed := true, recurses := true, apart := false, narrowed := true }
def InsnParseUptoSaid : Prop := insnParseUptoRow.holds Try.pinned (OpenSpec.upto insnParseSpec)

/-- 'vestibulelaw01.WordsShift', WHERE WHAT IT READS IS OF BULK AT MOST 1048576: true; the input reads as it did. -/
def wordsShiftUptoRow : OpenClaim := { program := "ytlicndonhmcmmaa", sum := "2ada2f5ec87f4bb1ced5e9547d8b9ca46fe10520a383291fda6997304dd6ca1f", func := "vestibule/vestibulelaw01.WordsShift", spec := "wordsShift", apart := false, narrowed := true }
def WordsShiftUptoSaid : Prop := wordsShiftUptoRow.holds Try.pinned (OpenSpec.upto wordsShiftSpec)

/-- 'vestibulelaw01.WordsHalves', WHERE WHAT IT READS IS OF BULK AT MOST 1048576: true; the input reads as it did. -/
def wordsHalvesUptoRow : OpenClaim := { program := "ytlicndonhmcmmaa", sum := "2ada2f5ec87f4bb1ced5e9547d8b9ca46fe10520a383291fda6997304dd6ca1f", func := "vestibule/vestibulelaw01.WordsHalves", spec := "wordsHalves", apart := false, narrowed := true }
def WordsHalvesUptoSaid : Prop := wordsHalvesUptoRow.holds Try.pinned (OpenSpec.upto wordsHalvesSpec)

/-- 'vestibulelaw02.InsnPrint', WHERE WHAT IT READS IS OF BULK AT MOST 1048576: true; the input reads as it did. -/
def insnPrintUptoRow : OpenClaim := { program := "ytlicndonhmcmmaa", sum := "2ada2f5ec87f4bb1ced5e9547d8b9ca46fe10520a383291fda6997304dd6ca1f", func := "vestibule/vestibulelaw02.InsnPrint", spec := "insnPrint", unfollowed := true, recurses := true, apart := false, narrowed := true }
def InsnPrintUptoSaid : Prop := insnPrintUptoRow.holds Try.pinned (OpenSpec.upto insnPrintSpec)

/-- 'vestibulelaw03.DataBack', WHERE WHAT IT READS IS OF BULK AT MOST 1048576: true; the input reads as it did. -/
def dataBackUptoRow : OpenClaim := { program := "ytlicndonhmcmmaa", sum := "2ada2f5ec87f4bb1ced5e9547d8b9ca46fe10520a383291fda6997304dd6ca1f", func := "vestibule/vestibulelaw03.DataBack", spec := "dataBack", apart := false, narrowed := true }
def DataBackUptoSaid : Prop := dataBackUptoRow.holds Try.pinned (OpenSpec.upto dataBackSpec)

/-- 'vestibulelaw02.InsnCodes', WHERE WHAT IT READS IS OF BULK AT MOST 1048576: true; the input reads as it did. -/
def insnCodesUptoRow : OpenClaim := { program := "ytlicndonhmcmmaa", sum := "2ada2f5ec87f4bb1ced5e9547d8b9ca46fe10520a383291fda6997304dd6ca1f", func := "vestibule/vestibulelaw02.InsnCodes", spec := "insnCodes", unfollowed := true, recurses := true, apart := false, narrowed := true }
def InsnCodesUptoSaid : Prop := insnCodesUptoRow.holds Try.pinned (OpenSpec.upto insnCodesSpec)

/-- 'vestibulelaw02.InsnLimit', WHERE WHAT IT READS IS OF BULK AT MOST 1048576: true; the input reads as it did. -/
def insnLimitUptoRow : OpenClaim := { program := "ytlicndonhmcmmaa", sum := "2ada2f5ec87f4bb1ced5e9547d8b9ca46fe10520a383291fda6997304dd6ca1f", func := "vestibule/vestibulelaw02.InsnLimit", spec := "insnLimit", unfollowed := true, recurses := true, apart := false, narrowed := true }
def InsnLimitUptoSaid : Prop := insnLimitUptoRow.holds Try.pinned (OpenSpec.upto insnLimitSpec)

/-- 'vestibulelaw02.InsnNames', WHERE WHAT IT READS IS OF BULK AT MOST 1048576: true; the input reads as it did. -/
def insnNamesUptoRow : OpenClaim := { program := "ytlicndonhmcmmaa", sum := "2ada2f5ec87f4bb1ced5e9547d8b9ca46fe10520a383291fda6997304dd6ca1f", func := "vestibule/vestibulelaw02.InsnNames", spec := "insnNames", unfollowed := true, recurses := true, apart := false, narrowed := true }
def InsnNamesUptoSaid : Prop := insnNamesUptoRow.holds Try.pinned (OpenSpec.upto insnNamesSpec)

/-- 'vestibulelaw02.InsnBack', WHERE WHAT IT READS IS OF BULK AT MOST 1048576: true; the input reads as it did. -/
def insnBackUptoRow : OpenClaim := { program := "ytlicndonhmcmmaa", sum := "2ada2f5ec87f4bb1ced5e9547d8b9ca46fe10520a383291fda6997304dd6ca1f", func := "vestibule/vestibulelaw02.InsnBack", spec := "insnBack", unfollowed := true, recurses := true, apart := false, narrowed := true }
def InsnBackUptoSaid : Prop := insnBackUptoRow.holds Try.pinned (OpenSpec.upto insnBackSpec)

/-- 'vestibulelaw02.InsnPieces', WHERE WHAT IT READS IS OF BULK AT MOST 1048576: true; the input reads as it did. -/
def insnPiecesUptoRow : OpenClaim := { program := "ytlicndonhmcmmaa", sum := "2ada2f5ec87f4bb1ced5e9547d8b9ca46fe10520a383291fda6997304dd6ca1f", func := "vestibule/vestibulelaw02.InsnPieces", spec := "insnPieces", unfollowed := true, recurses := true, apart := false, narrowed := true }
def InsnPiecesUptoSaid : Prop := insnPiecesUptoRow.holds Try.pinned (OpenSpec.upto insnPiecesSpec)

end Rows
end Go.Proofs.Ytlicndonhmcmmaa
