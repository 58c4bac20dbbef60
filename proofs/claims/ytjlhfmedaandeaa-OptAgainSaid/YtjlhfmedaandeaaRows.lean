/-
  No cell of these rows narrows 'for every input' (looked for: loops, veiled, ifaces, maps, wideKeys, modest, calm, conditions, laid).
  DERIVED. THE GIVEN ROWS OF THIS SEAT. 10 by the template 'for every input the law returns true; each argument reads behind the call as it read before'; 0 by the template 'total and deterministic' (their statements: YtjlhfmedaandeaaTotals.lean).
  GIVEN WITH THE SEED: the statements are not yours to turn. If you find one false, say at which input.
  Laid BY PROGRAM, IN A SANDBOX (cutbox-rows.mjs): the forced cells as the released guide's own fill.sh prints them over the translation cdedb00637b4d7d4… (all of the seat's roots in one cut). By AI agents, Wed Nov 11 2026. No macro, syntax, notation, axiom, sorry.
-/
import Derived.Test.YtjlhfmedaandeaaChecked
import GoSem.Claim
import GoSem.ClaimJoined
import GoSem.ClaimMapViews
import Derived.JoinedTies
import Derived.KernelRfl
namespace Go.Proofs.Ytjlhfmedaandeaa
/- THE CELL 'sum', in the pinned program and in every row, IS THE sha256 OF THE DUMP (.gsa) THAT YtjlhfmedaandeaaProg.lean LOADS. Nothing in Lean hashes anything: it is a label: what it is worth is what the hold of that sum in a sandbox is worth. -/
noncomputable def Try.pinned : Pinned := { name := "ytjlhfmedaandeaa", sum := "cdedb00637b4d7d45ab224b6aea03d3c9db8ad61c265f3323e48e46d68b0f0d2", checked := Try.checked }
namespace Rows
def none {H : Type} : Left H := { results := [], args := [] }

/-- 'vestibulelaw26.OptAlive': WHATEVER THE INPUT: true; the input reads as it did. -/
def optAliveSpec : ChangeSpec := { name := "optAlive", fn := fun _ => fun
  | [d] => { results := [.lit (.bool true)], args := [d] }
  | _ => none }
def optAliveRow : OpenClaim := { program := "ytjlhfmedaandeaa", sum := "cdedb00637b4d7d45ab224b6aea03d3c9db8ad61c265f3323e48e46d68b0f0d2", func := "vestibule/vestibulelaw26.OptAlive", spec := "optAlive", unfollowed := true, recurses := true, apart := false }
def OptAliveSaid : Prop := optAliveRow.holds Try.pinned (OpenSpec.ofChange optAliveSpec)

/-- ITS FALSE NEIGHBOUR: 'it returns false'. Refute it at one input. -/
def optAliveWrong : ChangeSpec := { name := "optAlive", fn := fun _ => fun
  | [d] => { results := [.lit (.bool false)], args := [d] }
  | _ => none }
def OptAliveWrongFalsely : Prop := optAliveRow.holds Try.pinned (OpenSpec.ofChange optAliveWrong)

/-- 'vestibulelaw27.LinkBig': WHATEVER THE INPUT: true; the input reads as it did. -/
def linkBigSpec : ChangeSpec := { name := "linkBig", fn := fun _ => fun
  | [d1, d2] => { results := [.lit (.bool true)], args := [d1, d2] }
  | _ => none }
def linkBigRow : OpenClaim := { program := "ytjlhfmedaandeaa", sum := "cdedb00637b4d7d45ab224b6aea03d3c9db8ad61c265f3323e48e46d68b0f0d2", func := "vestibule/vestibulelaw27.LinkBig", spec := "linkBig", unfollowed := true, recurses := true, apart := false }
def LinkBigSaid : Prop := linkBigRow.holds Try.pinned (OpenSpec.ofChange linkBigSpec)

/-- ITS FALSE NEIGHBOUR: 'it returns false'. Refute it at one input. -/
def linkBigWrong : ChangeSpec := { name := "linkBig", fn := fun _ => fun
  | [d1, d2] => { results := [.lit (.bool false)], args := [d1, d2] }
  | _ => none }
def LinkBigWrongFalsely : Prop := linkBigRow.holds Try.pinned (OpenSpec.ofChange linkBigWrong)

/-- 'vestibulelaw27.LinkLinks': WHATEVER THE INPUT: true; the input reads as it did. -/
def linkLinksSpec : ChangeSpec := { name := "linkLinks", fn := fun _ => fun
  | [d] => { results := [.lit (.bool true)], args := [d] }
  | _ => none }
def linkLinksRow : OpenClaim := { program := "ytjlhfmedaandeaa", sum := "cdedb00637b4d7d45ab224b6aea03d3c9db8ad61c265f3323e48e46d68b0f0d2", func := "vestibule/vestibulelaw27.LinkLinks", spec := "linkLinks", unfollowed := true, recurses := true, apart := false }
def LinkLinksSaid : Prop := linkLinksRow.holds Try.pinned (OpenSpec.ofChange linkLinksSpec)

/-- ITS FALSE NEIGHBOUR: 'it returns false'. Refute it at one input. -/
def linkLinksWrong : ChangeSpec := { name := "linkLinks", fn := fun _ => fun
  | [d] => { results := [.lit (.bool false)], args := [d] }
  | _ => none }
def LinkLinksWrongFalsely : Prop := linkLinksRow.holds Try.pinned (OpenSpec.ofChange linkLinksWrong)

/-- 'vestibulelaw27.LinkNear': WHATEVER THE INPUT: true; the input reads as it did. -/
def linkNearSpec : ChangeSpec := { name := "linkNear", fn := fun _ => fun
  | [d] => { results := [.lit (.bool true)], args := [d] }
  | _ => none }
def linkNearRow : OpenClaim := { program := "ytjlhfmedaandeaa", sum := "cdedb00637b4d7d45ab224b6aea03d3c9db8ad61c265f3323e48e46d68b0f0d2", func := "vestibule/vestibulelaw27.LinkNear", spec := "linkNear", unfollowed := true, recurses := true, apart := false }
def LinkNearSaid : Prop := linkNearRow.holds Try.pinned (OpenSpec.ofChange linkNearSpec)

/-- ITS FALSE NEIGHBOUR: 'it returns false'. Refute it at one input. -/
def linkNearWrong : ChangeSpec := { name := "linkNear", fn := fun _ => fun
  | [d] => { results := [.lit (.bool false)], args := [d] }
  | _ => none }
def LinkNearWrongFalsely : Prop := linkNearRow.holds Try.pinned (OpenSpec.ofChange linkNearWrong)

/-- 'vestibulelaw26.OptPasses': WHATEVER THE INPUT: true; the input reads as it did. -/
def optPassesSpec : ChangeSpec := { name := "optPasses", fn := fun _ => fun
  | [d] => { results := [.lit (.bool true)], args := [d] }
  | _ => none }
def optPassesRow : OpenClaim := { program := "ytjlhfmedaandeaa", sum := "cdedb00637b4d7d45ab224b6aea03d3c9db8ad61c265f3323e48e46d68b0f0d2", func := "vestibule/vestibulelaw26.OptPasses", spec := "optPasses", unfollowed := true, recurses := true, apart := false }
def OptPassesSaid : Prop := optPassesRow.holds Try.pinned (OpenSpec.ofChange optPassesSpec)

/-- ITS FALSE NEIGHBOUR: 'it returns false'. Refute it at one input. -/
def optPassesWrong : ChangeSpec := { name := "optPasses", fn := fun _ => fun
  | [d] => { results := [.lit (.bool false)], args := [d] }
  | _ => none }
def OptPassesWrongFalsely : Prop := optPassesRow.holds Try.pinned (OpenSpec.ofChange optPassesWrong)

/-- 'vestibulelaw26.OptAgain': WHATEVER THE INPUT: true; the input reads as it did. -/
def optAgainSpec : ChangeSpec := { name := "optAgain", fn := fun _ => fun
  | [d] => { results := [.lit (.bool true)], args := [d] }
  | _ => none }
def optAgainRow : OpenClaim := { program := "ytjlhfmedaandeaa", sum := "cdedb00637b4d7d45ab224b6aea03d3c9db8ad61c265f3323e48e46d68b0f0d2", func := "vestibule/vestibulelaw26.OptAgain", spec := "optAgain", unfollowed := true, recurses := true, apart := false }
def OptAgainSaid : Prop := optAgainRow.holds Try.pinned (OpenSpec.ofChange optAgainSpec)

/-- ITS FALSE NEIGHBOUR: 'it returns false'. Refute it at one input. -/
def optAgainWrong : ChangeSpec := { name := "optAgain", fn := fun _ => fun
  | [d] => { results := [.lit (.bool false)], args := [d] }
  | _ => none }
def OptAgainWrongFalsely : Prop := optAgainRow.holds Try.pinned (OpenSpec.ofChange optAgainWrong)

/-- 'vestibulelaw26.OptSame': WHATEVER THE INPUT: true; the input reads as it did. -/
def optSameSpec : ChangeSpec := { name := "optSame", fn := fun _ => fun
  | [d1, d2] => { results := [.lit (.bool true)], args := [d1, d2] }
  | _ => none }
def optSameRow : OpenClaim := { program := "ytjlhfmedaandeaa", sum := "cdedb00637b4d7d45ab224b6aea03d3c9db8ad61c265f3323e48e46d68b0f0d2", func := "vestibule/vestibulelaw26.OptSame", spec := "optSame", unfollowed := true, recurses := true, apart := false }
def OptSameSaid : Prop := optSameRow.holds Try.pinned (OpenSpec.ofChange optSameSpec)

/-- ITS FALSE NEIGHBOUR: 'it returns false'. Refute it at one input. -/
def optSameWrong : ChangeSpec := { name := "optSame", fn := fun _ => fun
  | [d1, d2] => { results := [.lit (.bool false)], args := [d1, d2] }
  | _ => none }
def OptSameWrongFalsely : Prop := optSameRow.holds Try.pinned (OpenSpec.ofChange optSameWrong)

/-- 'vestibulelaw26.OptDone': WHATEVER THE INPUT: true; the input reads as it did. -/
def optDoneSpec : ChangeSpec := { name := "optDone", fn := fun _ => fun
  | [d1, d2, d3] => { results := [.lit (.bool true)], args := [d1, d2, d3] }
  | _ => none }
def optDoneRow : OpenClaim := { program := "ytjlhfmedaandeaa", sum := "cdedb00637b4d7d45ab224b6aea03d3c9db8ad61c265f3323e48e46d68b0f0d2", func := "vestibule/vestibulelaw26.OptDone", spec := "optDone", unfollowed := true, recurses := true, apart := false }
def OptDoneSaid : Prop := optDoneRow.holds Try.pinned (OpenSpec.ofChange optDoneSpec)

/-- ITS FALSE NEIGHBOUR: 'it returns false'. Refute it at one input. -/
def optDoneWrong : ChangeSpec := { name := "optDone", fn := fun _ => fun
  | [d1, d2, d3] => { results := [.lit (.bool false)], args := [d1, d2, d3] }
  | _ => none }
def OptDoneWrongFalsely : Prop := optDoneRow.holds Try.pinned (OpenSpec.ofChange optDoneWrong)

/-- 'vestibulelaw27.LinkPadded': WHATEVER THE INPUT: true; the input reads as it did. -/
def linkPaddedSpec : ChangeSpec := { name := "linkPadded", fn := fun _ => fun
  | [d1, d2, d3, d4] => { results := [.lit (.bool true)], args := [d1, d2, d3, d4] }
  | _ => none }
def linkPaddedRow : OpenClaim := { program := "ytjlhfmedaandeaa", sum := "cdedb00637b4d7d45ab224b6aea03d3c9db8ad61c265f3323e48e46d68b0f0d2", func := "vestibule/vestibulelaw27.LinkPadded", spec := "linkPadded", unfollowed := true, recurses := true, apart := false }
def LinkPaddedSaid : Prop := linkPaddedRow.holds Try.pinned (OpenSpec.ofChange linkPaddedSpec)

/-- ITS FALSE NEIGHBOUR: 'it returns false'. Refute it at one input. -/
def linkPaddedWrong : ChangeSpec := { name := "linkPadded", fn := fun _ => fun
  | [d1, d2, d3, d4] => { results := [.lit (.bool false)], args := [d1, d2, d3, d4] }
  | _ => none }
def LinkPaddedWrongFalsely : Prop := linkPaddedRow.holds Try.pinned (OpenSpec.ofChange linkPaddedWrong)

/-- 'vestibulelaw27.LinkSame': WHATEVER THE INPUT: true; the input reads as it did. -/
def linkSameSpec : ChangeSpec := { name := "linkSame", fn := fun _ => fun
  | [d1, d2] => { results := [.lit (.bool true)], args := [d1, d2] }
  | _ => none }
def linkSameRow : OpenClaim := { program := "ytjlhfmedaandeaa", sum := "cdedb00637b4d7d45ab224b6aea03d3c9db8ad61c265f3323e48e46d68b0f0d2", func := "vestibule/vestibulelaw27.LinkSame", spec := "linkSame", unfollowed := true, recurses := true, apart := false }
def LinkSameSaid : Prop := linkSameRow.holds Try.pinned (OpenSpec.ofChange linkSameSpec)

/-- ITS FALSE NEIGHBOUR: 'it returns false'. Refute it at one input. -/
def linkSameWrong : ChangeSpec := { name := "linkSame", fn := fun _ => fun
  | [d1, d2] => { results := [.lit (.bool false)], args := [d1, d2] }
  | _ => none }
def LinkSameWrongFalsely : Prop := linkSameRow.holds Try.pinned (OpenSpec.ofChange linkSameWrong)

/- THE SECOND FORM. 'bulk': how many values and letters a reading holds, each counted each time it is reached (what is shared counts as often as it is met; a slice's spare places count too). A statement '..UptoSaid' is the law's where the arguments, and the package variables that the reading takes, are together of bulk at most 1048576: NARROWER than '..Said'. Prove '..Said' where nothing that the law and all that it calls make is longer than what came in: it says more and counts as full. Else prove '..UptoSaid'. A law counts once. -/
mutual
def uptoBulk {H : Type} : DataW H → Nat
  | .lit (.string bytes) => bytes.length + 1
  | .lit _ => 1
  | .nil => 1
  | .ptr d => uptoBulk d + 1
  | .slice elems spare => uptoBulkAll elems + uptoBulkAll spare + 1
  | .agg parts => uptoBulkAll parts + 1
  | .iface _ d => uptoBulk d + 1
  | .map entries => uptoBulkEntries entries + 1
  | .held _ => 1
def uptoBulkAll {H : Type} : List (DataW H) → Nat
  | [] => 0
  | d :: r => uptoBulk d + uptoBulkAll r
def uptoBulkEntries {H : Type} : List (Lit × DataW H) → Nat
  | [] => 0
  | x :: r => uptoBulkEntry x + uptoBulkEntries r
def uptoBulkEntry {H : Type} : Lit × DataW H → Nat
  | (.string bytes, d) => bytes.length + uptoBulk d + 1
  | (_, d) => uptoBulk d + 1
 end
def uptoSmall : (H : Type) → List (DataW H) → Bool := fun _ ds => decide (uptoBulkAll ds ≤ 1048576)
def OpenSpec.upto (s : _root_.Go.ChangeSpec) : _root_.Go.OpenSpec := { _root_.Go.OpenSpec.ofChange s with cond := some uptoSmall }

/-- 'vestibulelaw26.OptAlive', WHERE WHAT IT READS IS OF BULK AT MOST 1048576: true; the input reads as it did. -/
def optAliveUptoRow : OpenClaim := { program := "ytjlhfmedaandeaa", sum := "cdedb00637b4d7d45ab224b6aea03d3c9db8ad61c265f3323e48e46d68b0f0d2", func := "vestibule/vestibulelaw26.OptAlive", spec := "optAlive", unfollowed := true, recurses := true, apart := false, narrowed := true }
def OptAliveUptoSaid : Prop := optAliveUptoRow.holds Try.pinned (OpenSpec.upto optAliveSpec)

/-- 'vestibulelaw27.LinkBig', WHERE WHAT IT READS IS OF BULK AT MOST 1048576: true; the input reads as it did. -/
def linkBigUptoRow : OpenClaim := { program := "ytjlhfmedaandeaa", sum := "cdedb00637b4d7d45ab224b6aea03d3c9db8ad61c265f3323e48e46d68b0f0d2", func := "vestibule/vestibulelaw27.LinkBig", spec := "linkBig", unfollowed := true, recurses := true, apart := false, narrowed := true }
def LinkBigUptoSaid : Prop := linkBigUptoRow.holds Try.pinned (OpenSpec.upto linkBigSpec)

/-- 'vestibulelaw27.LinkLinks', WHERE WHAT IT READS IS OF BULK AT MOST 1048576: true; the input reads as it did. -/
def linkLinksUptoRow : OpenClaim := { program := "ytjlhfmedaandeaa", sum := "cdedb00637b4d7d45ab224b6aea03d3c9db8ad61c265f3323e48e46d68b0f0d2", func := "vestibule/vestibulelaw27.LinkLinks", spec := "linkLinks", unfollowed := true, recurses := true, apart := false, narrowed := true }
def LinkLinksUptoSaid : Prop := linkLinksUptoRow.holds Try.pinned (OpenSpec.upto linkLinksSpec)

/-- 'vestibulelaw27.LinkNear', WHERE WHAT IT READS IS OF BULK AT MOST 1048576: true; the input reads as it did. -/
def linkNearUptoRow : OpenClaim := { program := "ytjlhfmedaandeaa", sum := "cdedb00637b4d7d45ab224b6aea03d3c9db8ad61c265f3323e48e46d68b0f0d2", func := "vestibule/vestibulelaw27.LinkNear", spec := "linkNear", unfollowed := true, recurses := true, apart := false, narrowed := true }
def LinkNearUptoSaid : Prop := linkNearUptoRow.holds Try.pinned (OpenSpec.upto linkNearSpec)

/-- 'vestibulelaw26.OptPasses', WHERE WHAT IT READS IS OF BULK AT MOST 1048576: true; the input reads as it did. -/
def optPassesUptoRow : OpenClaim := { program := "ytjlhfmedaandeaa", sum := "cdedb00637b4d7d45ab224b6aea03d3c9db8ad61c265f3323e48e46d68b0f0d2", func := "vestibule/vestibulelaw26.OptPasses", spec := "optPasses", unfollowed := true, recurses := true, apart := false, narrowed := true }
def OptPassesUptoSaid : Prop := optPassesUptoRow.holds Try.pinned (OpenSpec.upto optPassesSpec)

/-- 'vestibulelaw26.OptAgain', WHERE WHAT IT READS IS OF BULK AT MOST 1048576: true; the input reads as it did. -/
def optAgainUptoRow : OpenClaim := { program := "ytjlhfmedaandeaa", sum := "cdedb00637b4d7d45ab224b6aea03d3c9db8ad61c265f3323e48e46d68b0f0d2", func := "vestibule/vestibulelaw26.OptAgain", spec := "optAgain", unfollowed := true, recurses := true, apart := false, narrowed := true }
def OptAgainUptoSaid : Prop := optAgainUptoRow.holds Try.pinned (OpenSpec.upto optAgainSpec)

/-- 'vestibulelaw26.OptSame', WHERE WHAT IT READS IS OF BULK AT MOST 1048576: true; the input reads as it did. -/
def optSameUptoRow : OpenClaim := { program := "ytjlhfmedaandeaa", sum := "cdedb00637b4d7d45ab224b6aea03d3c9db8ad61c265f3323e48e46d68b0f0d2", func := "vestibule/vestibulelaw26.OptSame", spec := "optSame", unfollowed := true, recurses := true, apart := false, narrowed := true }
def OptSameUptoSaid : Prop := optSameUptoRow.holds Try.pinned (OpenSpec.upto optSameSpec)

/-- 'vestibulelaw26.OptDone', WHERE WHAT IT READS IS OF BULK AT MOST 1048576: true; the input reads as it did. -/
def optDoneUptoRow : OpenClaim := { program := "ytjlhfmedaandeaa", sum := "cdedb00637b4d7d45ab224b6aea03d3c9db8ad61c265f3323e48e46d68b0f0d2", func := "vestibule/vestibulelaw26.OptDone", spec := "optDone", unfollowed := true, recurses := true, apart := false, narrowed := true }
def OptDoneUptoSaid : Prop := optDoneUptoRow.holds Try.pinned (OpenSpec.upto optDoneSpec)

/-- 'vestibulelaw27.LinkPadded', WHERE WHAT IT READS IS OF BULK AT MOST 1048576: true; the input reads as it did. -/
def linkPaddedUptoRow : OpenClaim := { program := "ytjlhfmedaandeaa", sum := "cdedb00637b4d7d45ab224b6aea03d3c9db8ad61c265f3323e48e46d68b0f0d2", func := "vestibule/vestibulelaw27.LinkPadded", spec := "linkPadded", unfollowed := true, recurses := true, apart := false, narrowed := true }
def LinkPaddedUptoSaid : Prop := linkPaddedUptoRow.holds Try.pinned (OpenSpec.upto linkPaddedSpec)

/-- 'vestibulelaw27.LinkSame', WHERE WHAT IT READS IS OF BULK AT MOST 1048576: true; the input reads as it did. -/
def linkSameUptoRow : OpenClaim := { program := "ytjlhfmedaandeaa", sum := "cdedb00637b4d7d45ab224b6aea03d3c9db8ad61c265f3323e48e46d68b0f0d2", func := "vestibule/vestibulelaw27.LinkSame", spec := "linkSame", unfollowed := true, recurses := true, apart := false, narrowed := true }
def LinkSameUptoSaid : Prop := linkSameUptoRow.holds Try.pinned (OpenSpec.upto linkSameSpec)

end Rows
end Go.Proofs.Ytjlhfmedaandeaa
