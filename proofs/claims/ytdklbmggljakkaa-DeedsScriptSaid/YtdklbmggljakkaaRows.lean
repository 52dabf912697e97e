/-
  No cell of these rows narrows 'for every input' (looked for: loops, veiled, ifaces, maps, wideKeys, modest, calm, conditions, laid).
  DERIVED. THE GIVEN ROWS OF THIS SEAT. 6 by the template 'for every input the law returns true; each argument reads behind the call as it read before'; 0 by the template 'total and deterministic' (their statements: YtdklbmggljakkaaTotals.lean).
  GIVEN WITH THE SEED: the statements are not yours to turn. If you find one false, say at which input.
  Laid BY PROGRAM, IN A SANDBOX (cutbox-rows.mjs): the forced cells as the released guide's own fill.sh prints them over the translation 50def218089aac00… (all of the seat's roots in one cut). By AI agents, Wed Nov 11 2026. No macro, syntax, notation, axiom, sorry.
-/
import Derived.Test.YtdklbmggljakkaaChecked
import GoSem.Claim
import GoSem.ClaimJoined
import GoSem.ClaimMapViews
import Derived.JoinedTies
import Derived.KernelRfl
namespace Go.Proofs.Ytdklbmggljakkaa
/- THE CELL 'sum', in the pinned program and in every row, IS THE sha256 OF THE DUMP (.gsa) THAT YtdklbmggljakkaaProg.lean LOADS. Nothing in Lean hashes anything: it is a label: what it is worth is what the hold of that sum in a sandbox is worth. -/
noncomputable def Try.pinned : Pinned := { name := "ytdklbmggljakkaa", sum := "50def218089aac00432cb81cb5bb4c89f9264ca3b4fec4eaddae4792dc5a8a61", checked := Try.checked }
namespace Rows
def none {H : Type} : Left H := { results := [], args := [] }

/-- 'twinshaftlaw14.DeedsScript': WHATEVER THE INPUT: true; the input reads as it did. -/
def deedsScriptSpec : ChangeSpec := { name := "deedsScript", fn := fun _ => fun
  | [d1, d2, d3] => { results := [.lit (.bool true)], args := [d1, d2, d3] }
  | _ => none }
def deedsScriptRow : OpenClaim := { program := "ytdklbmggljakkaa", sum := "50def218089aac00432cb81cb5bb4c89f9264ca3b4fec4eaddae4792dc5a8a61", func := "twinshaft/twinshaftlaw14.DeedsScript", spec := "deedsScript", inPlace := ["internal/abi.NoEscape"], unfollowed := true, recurses := true, apart := false }
def DeedsScriptSaid : Prop := deedsScriptRow.holds Try.pinned (OpenSpec.ofChange deedsScriptSpec)

/-- ITS FALSE NEIGHBOUR: 'it returns false'. Refute it at one input. -/
def deedsScriptWrong : ChangeSpec := { name := "deedsScript", fn := fun _ => fun
  | [d1, d2, d3] => { results := [.lit (.bool false)], args := [d1, d2, d3] }
  | _ => none }
def DeedsScriptWrongFalsely : Prop := deedsScriptRow.holds Try.pinned (OpenSpec.ofChange deedsScriptWrong)

/-- 'twinshaftlaw14.DeedsNone': WHATEVER THE INPUT: true; the input reads as it did. -/
def deedsNoneSpec : ChangeSpec := { name := "deedsNone", fn := fun _ => fun
  | [d] => { results := [.lit (.bool true)], args := [d] }
  | _ => none }
def deedsNoneRow : OpenClaim := { program := "ytdklbmggljakkaa", sum := "50def218089aac00432cb81cb5bb4c89f9264ca3b4fec4eaddae4792dc5a8a61", func := "twinshaft/twinshaftlaw14.DeedsNone", spec := "deedsNone", inPlace := ["internal/abi.NoEscape"], unfollowed := true, recurses := true, apart := false }
def DeedsNoneSaid : Prop := deedsNoneRow.holds Try.pinned (OpenSpec.ofChange deedsNoneSpec)

/-- ITS FALSE NEIGHBOUR: 'it returns false'. Refute it at one input. -/
def deedsNoneWrong : ChangeSpec := { name := "deedsNone", fn := fun _ => fun
  | [d] => { results := [.lit (.bool false)], args := [d] }
  | _ => none }
def DeedsNoneWrongFalsely : Prop := deedsNoneRow.holds Try.pinned (OpenSpec.ofChange deedsNoneWrong)

/-- 'twinshaftlaw14.DeedsTells': WHATEVER THE INPUT: true; the input reads as it did. -/
def deedsTellsSpec : ChangeSpec := { name := "deedsTells", fn := fun _ => fun
  | [d1, d2] => { results := [.lit (.bool true)], args := [d1, d2] }
  | _ => none }
def deedsTellsRow : OpenClaim := { program := "ytdklbmggljakkaa", sum := "50def218089aac00432cb81cb5bb4c89f9264ca3b4fec4eaddae4792dc5a8a61", func := "twinshaft/twinshaftlaw14.DeedsTells", spec := "deedsTells", inPlace := ["internal/abi.NoEscape"], unfollowed := true, recurses := true, apart := false }
def DeedsTellsSaid : Prop := deedsTellsRow.holds Try.pinned (OpenSpec.ofChange deedsTellsSpec)

/-- ITS FALSE NEIGHBOUR: 'it returns false'. Refute it at one input. -/
def deedsTellsWrong : ChangeSpec := { name := "deedsTells", fn := fun _ => fun
  | [d1, d2] => { results := [.lit (.bool false)], args := [d1, d2] }
  | _ => none }
def DeedsTellsWrongFalsely : Prop := deedsTellsRow.holds Try.pinned (OpenSpec.ofChange deedsTellsWrong)

/-- 'twinshaftlaw14.DeedsKnown': WHATEVER THE INPUT: true; the input reads as it did. -/
def deedsKnownSpec : ChangeSpec := { name := "deedsKnown", fn := fun _ => fun
  | [] => { results := [.lit (.bool true)], args := [] }
  | _ => none }
def deedsKnownRow : OpenClaim := { program := "ytdklbmggljakkaa", sum := "50def218089aac00432cb81cb5bb4c89f9264ca3b4fec4eaddae4792dc5a8a61", func := "twinshaft/twinshaftlaw14.DeedsKnown", spec := "deedsKnown", inPlace := ["internal/abi.NoEscape"], unfollowed := true, recurses := true, apart := false }
def DeedsKnownSaid : Prop := deedsKnownRow.holds Try.pinned (OpenSpec.ofChange deedsKnownSpec)

/-- ITS FALSE NEIGHBOUR: 'it returns false'. Refute it at one input. -/
def deedsKnownWrong : ChangeSpec := { name := "deedsKnown", fn := fun _ => fun
  | [] => { results := [.lit (.bool false)], args := [] }
  | _ => none }
def DeedsKnownWrongFalsely : Prop := deedsKnownRow.holds Try.pinned (OpenSpec.ofChange deedsKnownWrong)

/-- 'twinshaftlaw14.DeedsTexts': WHATEVER THE INPUT: true; the input reads as it did. -/
def deedsTextsSpec : ChangeSpec := { name := "deedsTexts", fn := fun _ => fun
  | [d1, d2] => { results := [.lit (.bool true)], args := [d1, d2] }
  | _ => none }
def deedsTextsRow : OpenClaim := { program := "ytdklbmggljakkaa", sum := "50def218089aac00432cb81cb5bb4c89f9264ca3b4fec4eaddae4792dc5a8a61", func := "twinshaft/twinshaftlaw14.DeedsTexts", spec := "deedsTexts", inPlace := ["internal/abi.NoEscape"], unfollowed := true, recurses := true, apart := false }
def DeedsTextsSaid : Prop := deedsTextsRow.holds Try.pinned (OpenSpec.ofChange deedsTextsSpec)

/-- ITS FALSE NEIGHBOUR: 'it returns false'. Refute it at one input. -/
def deedsTextsWrong : ChangeSpec := { name := "deedsTexts", fn := fun _ => fun
  | [d1, d2] => { results := [.lit (.bool false)], args := [d1, d2] }
  | _ => none }
def DeedsTextsWrongFalsely : Prop := deedsTextsRow.holds Try.pinned (OpenSpec.ofChange deedsTextsWrong)

/-- 'twinshaftlaw14.DeedsTape': WHATEVER THE INPUT: true; the input reads as it did. -/
def deedsTapeSpec : ChangeSpec := { name := "deedsTape", fn := fun _ => fun
  | [d1, d2, d3] => { results := [.lit (.bool true)], args := [d1, d2, d3] }
  | _ => none }
def deedsTapeRow : OpenClaim := { program := "ytdklbmggljakkaa", sum := "50def218089aac00432cb81cb5bb4c89f9264ca3b4fec4eaddae4792dc5a8a61", func := "twinshaft/twinshaftlaw14.DeedsTape", spec := "deedsTape", inPlace := ["internal/abi.NoEscape"], unfollowed := true, recurses := true, apart := false }
def DeedsTapeSaid : Prop := deedsTapeRow.holds Try.pinned (OpenSpec.ofChange deedsTapeSpec)

/-- ITS FALSE NEIGHBOUR: 'it returns false'. Refute it at one input. -/
def deedsTapeWrong : ChangeSpec := { name := "deedsTape", fn := fun _ => fun
  | [d1, d2, d3] => { results := [.lit (.bool false)], args := [d1, d2, d3] }
  | _ => none }
def DeedsTapeWrongFalsely : Prop := deedsTapeRow.holds Try.pinned (OpenSpec.ofChange deedsTapeWrong)

/- THE SECOND FORM. 'bulk': how many values and letters a reading holds, each counted each time it is reached (what is shared counts as often as it is met; a slice's spare places count too). A statement '..UptoSaid' is the law's where the arguments, and the package variables that the reading takes, are together of bulk at most 1048576: NARROWER than '..Said'. Prove '..Said' where nothing that the law and all that it calls make is longer than what came in: it says more and counts as full. Else prove '..UptoSaid'. A law counts once. -/
mutual
def uptoBulk {H : Type} : DataW H → Nat
  | .lit (.string bytes) => bytes.length + 1
  | .lit _ => 1
  | .nil => 1
  | .ptr d => uptoBulk d + 1
  | .slice elems spare => uptoBulkAll elems + uptoBulkAll spare + 1
  | .agg parts => uptoBulkAll parts + 1
  | .iface _ d => uptoBulk d + 1
  | .map entries => uptoBulkEntries entries + 1
  | .held _ => 1
def uptoBulkAll {H : Type} : List (DataW H) → Nat
  | [] => 0
  | d :: r => uptoBulk d + uptoBulkAll r
def uptoBulkEntries {H : Type} : List (Lit × DataW H) → Nat
  | [] => 0
  | x :: r => uptoBulkEntry x + uptoBulkEntries r
def uptoBulkEntry {H : Type} : Lit × DataW H → Nat
  | (.string bytes, d) => bytes.length + uptoBulk d + 1
  | (_, d) => uptoBulk d + 1
 end
def uptoSmall : (H : Type) → List (DataW H) → Bool := fun _ ds => decide (uptoBulkAll ds ≤ 1048576)
def OpenSpec.upto (s : _root_.Go.ChangeSpec) : _root_.Go.OpenSpec := { _root_.Go.OpenSpec.ofChange s with cond := some uptoSmall }

/-- 'twinshaftlaw14.DeedsScript', WHERE WHAT IT READS IS OF BULK AT MOST 1048576: true; the input reads as it did. -/
def deedsScriptUptoRow : OpenClaim := { program := "ytdklbmggljakkaa", sum := "50def218089aac00432cb81cb5bb4c89f9264ca3b4fec4eaddae4792dc5a8a61", func := "twinshaft/twinshaftlaw14.DeedsScript", spec := "deedsScript", inPlace := ["internal/abi.NoEscape"], unfollowed := true, recurses := true, apart := false, narrowed := true }
def DeedsScriptUptoSaid : Prop := deedsScriptUptoRow.holds Try.pinned (OpenSpec.upto deedsScriptSpec)

/-- 'twinshaftlaw14.DeedsNone', WHERE WHAT IT READS IS OF BULK AT MOST 1048576: true; the input reads as it did. -/
def deedsNoneUptoRow : OpenClaim := { program := "ytdklbmggljakkaa", sum := "50def218089aac00432cb81cb5bb4c89f9264ca3b4fec4eaddae4792dc5a8a61", func := "twinshaft/twinshaftlaw14.DeedsNone", spec := "deedsNone", inPlace := ["internal/abi.NoEscape"], unfollowed := true, recurses := true, apart := false, narrowed := true }
def DeedsNoneUptoSaid : Prop := deedsNoneUptoRow.holds Try.pinned (OpenSpec.upto deedsNoneSpec)

/-- 'twinshaftlaw14.DeedsTells', WHERE WHAT IT READS IS OF BULK AT MOST 1048576: true; the input reads as it did. -/
def deedsTellsUptoRow : OpenClaim := { program := "ytdklbmggljakkaa", sum := "50def218089aac00432cb81cb5bb4c89f9264ca3b4fec4eaddae4792dc5a8a61", func := "twinshaft/twinshaftlaw14.DeedsTells", spec := "deedsTells", inPlace := ["internal/abi.NoEscape"], unfollowed := true, recurses := true, apart := false, narrowed := true }
def DeedsTellsUptoSaid : Prop := deedsTellsUptoRow.holds Try.pinned (OpenSpec.upto deedsTellsSpec)

/-- 'twinshaftlaw14.DeedsKnown', WHERE WHAT IT READS IS OF BULK AT MOST 1048576: true; the input reads as it did. -/
def deedsKnownUptoRow : OpenClaim := { program := "ytdklbmggljakkaa", sum := "50def218089aac00432cb81cb5bb4c89f9264ca3b4fec4eaddae4792dc5a8a61", func := "twinshaft/twinshaftlaw14.DeedsKnown", spec := "deedsKnown", inPlace := ["internal/abi.NoEscape"], unfollowed := true, recurses := true, apart := false, narrowed := true }
def DeedsKnownUptoSaid : Prop := deedsKnownUptoRow.holds Try.pinned (OpenSpec.upto deedsKnownSpec)

/-- 'twinshaftlaw14.DeedsTexts', WHERE WHAT IT READS IS OF BULK AT MOST 1048576: true; the input reads as it did. -/
def deedsTextsUptoRow : OpenClaim := { program := "ytdklbmggljakkaa", sum := "50def218089aac00432cb81cb5bb4c89f9264ca3b4fec4eaddae4792dc5a8a61", func := "twinshaft/twinshaftlaw14.DeedsTexts", spec := "deedsTexts", inPlace := ["internal/abi.NoEscape"], unfollowed := true, recurses := true, apart := false, narrowed := true }
def DeedsTextsUptoSaid : Prop := deedsTextsUptoRow.holds Try.pinned (OpenSpec.upto deedsTextsSpec)

/-- 'twinshaftlaw14.DeedsTape', WHERE WHAT IT READS IS OF BULK AT MOST 1048576: true; the input reads as it did. -/
def deedsTapeUptoRow : OpenClaim := { program := "ytdklbmggljakkaa", sum := "50def218089aac00432cb81cb5bb4c89f9264ca3b4fec4eaddae4792dc5a8a61", func := "twinshaft/twinshaftlaw14.DeedsTape", spec := "deedsTape", inPlace := ["internal/abi.NoEscape"], unfollowed := true, recurses := true, apart := false, narrowed := true }
def DeedsTapeUptoSaid : Prop := deedsTapeUptoRow.holds Try.pinned (OpenSpec.upto deedsTapeSpec)

end Rows
end Go.Proofs.Ytdklbmggljakkaa
