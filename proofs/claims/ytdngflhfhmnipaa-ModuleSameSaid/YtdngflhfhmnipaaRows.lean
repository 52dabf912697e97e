/-
  No cell of these rows narrows 'for every input' (looked for: loops, veiled, ifaces, maps, wideKeys, modest, calm, conditions, laid).
  DERIVED. THE GIVEN ROWS OF THIS SEAT. 4 by the template 'for every input the law returns true; each argument reads behind the call as it read before'; 0 by the template 'total and deterministic' (their statements: YtdngflhfhmnipaaTotals.lean).
  GIVEN WITH THE SEED: the statements are not yours to turn. If you find one false, say at which input.
  Laid BY PROGRAM, IN A SANDBOX (cutbox-rows.mjs): the forced cells as the released guide's own fill.sh prints them over the translation 28e18f4a9ebaef13… (all of the seat's roots in one cut). By AI agents, Wed Nov 11 2026. No macro, syntax, notation, axiom, sorry.
-/
import Derived.Test.YtdngflhfhmnipaaChecked
import GoSem.Claim
import GoSem.ClaimJoined
import GoSem.ClaimMapViews
import Derived.JoinedTies
import Derived.KernelRfl
namespace Go.Proofs.Ytdngflhfhmnipaa
/- THE CELL 'sum', in the pinned program and in every row, IS THE sha256 OF THE DUMP (.gsa) THAT YtdngflhfhmnipaaProg.lean LOADS. Nothing in Lean hashes anything: it is a label: what it is worth is what the hold of that sum in a sandbox is worth. -/
noncomputable def Try.pinned : Pinned := { name := "ytdngflhfhmnipaa", sum := "28e18f4a9ebaef13691e7b4b00f70b40ba939caa68fa8d09adb2ad35aa45b7be", checked := Try.checked }
namespace Rows
def none {H : Type} : Left H := { results := [], args := [] }

/-- 'twinshaftlaw08.ModuleKnown': WHATEVER THE INPUT: true; the input reads as it did. -/
def moduleKnownSpec : ChangeSpec := { name := "moduleKnown", fn := fun _ => fun
  | [] => { results := [.lit (.bool true)], args := [] }
  | _ => none }
def moduleKnownRow : OpenClaim := { program := "ytdngflhfhmnipaa", sum := "28e18f4a9ebaef13691e7b4b00f70b40ba939caa68fa8d09adb2ad35aa45b7be", func := "twinshaft/twinshaftlaw08.ModuleKnown", spec := "moduleKnown", inPlace := ["internal/bytealg.CountString", "internal/bytealg.IndexByteString", "internal/bytealg.IndexString"], unfollowed := true, recurses := true, named := ["internal/bytealg.MaxLen"], apart := false }
def ModuleKnownSaid : Prop := moduleKnownRow.holds Try.pinned (OpenSpec.ofChange moduleKnownSpec)

/-- ITS FALSE NEIGHBOUR: 'it returns false'. Refute it at one input. -/
def moduleKnownWrong : ChangeSpec := { name := "moduleKnown", fn := fun _ => fun
  | [] => { results := [.lit (.bool false)], args := [] }
  | _ => none }
def ModuleKnownWrongFalsely : Prop := moduleKnownRow.holds Try.pinned (OpenSpec.ofChange moduleKnownWrong)

/-- 'twinshaftlaw08.ModuleBack': WHATEVER THE INPUT: true; the input reads as it did. -/
def moduleBackSpec : ChangeSpec := { name := "moduleBack", fn := fun _ => fun
  | [d] => { results := [.lit (.bool true)], args := [d] }
  | _ => none }
def moduleBackRow : OpenClaim := { program := "ytdngflhfhmnipaa", sum := "28e18f4a9ebaef13691e7b4b00f70b40ba939caa68fa8d09adb2ad35aa45b7be", func := "twinshaft/twinshaftlaw08.ModuleBack", spec := "moduleBack", inPlace := ["internal/bytealg.CountString", "internal/bytealg.IndexByteString", "internal/bytealg.IndexString"], unfollowed := true, recurses := true, named := ["internal/bytealg.MaxLen"], apart := false }
def ModuleBackSaid : Prop := moduleBackRow.holds Try.pinned (OpenSpec.ofChange moduleBackSpec)

/-- ITS FALSE NEIGHBOUR: 'it returns false'. Refute it at one input. -/
def moduleBackWrong : ChangeSpec := { name := "moduleBack", fn := fun _ => fun
  | [d] => { results := [.lit (.bool false)], args := [d] }
  | _ => none }
def ModuleBackWrongFalsely : Prop := moduleBackRow.holds Try.pinned (OpenSpec.ofChange moduleBackWrong)

/-- 'twinshaftlaw08.ModuleAgain': WHATEVER THE INPUT: true; the input reads as it did. -/
def moduleAgainSpec : ChangeSpec := { name := "moduleAgain", fn := fun _ => fun
  | [d1, d2] => { results := [.lit (.bool true)], args := [d1, d2] }
  | _ => none }
def moduleAgainRow : OpenClaim := { program := "ytdngflhfhmnipaa", sum := "28e18f4a9ebaef13691e7b4b00f70b40ba939caa68fa8d09adb2ad35aa45b7be", func := "twinshaft/twinshaftlaw08.ModuleAgain", spec := "moduleAgain", inPlace := ["internal/bytealg.CountString", "internal/bytealg.IndexByteString", "internal/bytealg.IndexString"], unfollowed := true, recurses := true, named := ["internal/bytealg.MaxLen"], apart := false }
def ModuleAgainSaid : Prop := moduleAgainRow.holds Try.pinned (OpenSpec.ofChange moduleAgainSpec)

/-- ITS FALSE NEIGHBOUR: 'it returns false'. Refute it at one input. -/
def moduleAgainWrong : ChangeSpec := { name := "moduleAgain", fn := fun _ => fun
  | [d1, d2] => { results := [.lit (.bool false)], args := [d1, d2] }
  | _ => none }
def ModuleAgainWrongFalsely : Prop := moduleAgainRow.holds Try.pinned (OpenSpec.ofChange moduleAgainWrong)

/-- 'twinshaftlaw08.ModuleSame': WHATEVER THE INPUT: true; the input reads as it did. -/
def moduleSameSpec : ChangeSpec := { name := "moduleSame", fn := fun _ => fun
  | [d1, d2] => { results := [.lit (.bool true)], args := [d1, d2] }
  | _ => none }
def moduleSameRow : OpenClaim := { program := "ytdngflhfhmnipaa", sum := "28e18f4a9ebaef13691e7b4b00f70b40ba939caa68fa8d09adb2ad35aa45b7be", func := "twinshaft/twinshaftlaw08.ModuleSame", spec := "moduleSame", inPlace := ["internal/bytealg.CountString", "internal/bytealg.IndexByteString", "internal/bytealg.IndexString"], unfollowed := true, recurses := true, named := ["internal/bytealg.MaxLen"], apart := false }
def ModuleSameSaid : Prop := moduleSameRow.holds Try.pinned (OpenSpec.ofChange moduleSameSpec)

/-- ITS FALSE NEIGHBOUR: 'it returns false'. Refute it at one input. -/
def moduleSameWrong : ChangeSpec := { name := "moduleSame", fn := fun _ => fun
  | [d1, d2] => { results := [.lit (.bool false)], args := [d1, d2] }
  | _ => none }
def ModuleSameWrongFalsely : Prop := moduleSameRow.holds Try.pinned (OpenSpec.ofChange moduleSameWrong)

/- THE SECOND FORM. 'bulk': how many values and letters a reading holds, each counted each time it is reached (what is shared counts as often as it is met; a slice's spare places count too). A statement '..UptoSaid' is the law's where the arguments, and the package variables that the reading takes, are together of bulk at most 1048576: NARROWER than '..Said'. Prove '..Said' where nothing that the law and all that it calls make is longer than what came in: it says more and counts as full. Else prove '..UptoSaid'. A law counts once. -/
mutual
def uptoBulk {H : Type} : DataW H → Nat
  | .lit (.string bytes) => bytes.length + 1
  | .lit _ => 1
  | .nil => 1
  | .ptr d => uptoBulk d + 1
  | .slice elems spare => uptoBulkAll elems + uptoBulkAll spare + 1
  | .agg parts => uptoBulkAll parts + 1
  | .iface _ d => uptoBulk d + 1
  | .map entries => uptoBulkEntries entries + 1
  | .held _ => 1
def uptoBulkAll {H : Type} : List (DataW H) → Nat
  | [] => 0
  | d :: r => uptoBulk d + uptoBulkAll r
def uptoBulkEntries {H : Type} : List (Lit × DataW H) → Nat
  | [] => 0
  | x :: r => uptoBulkEntry x + uptoBulkEntries r
def uptoBulkEntry {H : Type} : Lit × DataW H → Nat
  | (.string bytes, d) => bytes.length + uptoBulk d + 1
  | (_, d) => uptoBulk d + 1
 end
def uptoSmall : (H : Type) → List (DataW H) → Bool := fun _ ds => decide (uptoBulkAll ds ≤ 1048576)
def OpenSpec.upto (s : _root_.Go.ChangeSpec) : _root_.Go.OpenSpec := { _root_.Go.OpenSpec.ofChange s with cond := some uptoSmall }

/-- 'twinshaftlaw08.ModuleKnown', WHERE WHAT IT READS IS OF BULK AT MOST 1048576: true; the input reads as it did. -/
def moduleKnownUptoRow : OpenClaim := { program := "ytdngflhfhmnipaa", sum := "28e18f4a9ebaef13691e7b4b00f70b40ba939caa68fa8d09adb2ad35aa45b7be", func := "twinshaft/twinshaftlaw08.ModuleKnown", spec := "moduleKnown", inPlace := ["internal/bytealg.CountString", "internal/bytealg.IndexByteString", "internal/bytealg.IndexString"], unfollowed := true, recurses := true, named := ["internal/bytealg.MaxLen"], apart := false, narrowed := true }
def ModuleKnownUptoSaid : Prop := moduleKnownUptoRow.holds Try.pinned (OpenSpec.upto moduleKnownSpec)

/-- 'twinshaftlaw08.ModuleBack', WHERE WHAT IT READS IS OF BULK AT MOST 1048576: true; the input reads as it did. -/
def moduleBackUptoRow : OpenClaim := { program := "ytdngflhfhmnipaa", sum := "28e18f4a9ebaef13691e7b4b00f70b40ba939caa68fa8d09adb2ad35aa45b7be", func := "twinshaft/twinshaftlaw08.ModuleBack", spec := "moduleBack", inPlace := ["internal/bytealg.CountString", "internal/bytealg.IndexByteString", "internal/bytealg.IndexString"], unfollowed := true, recurses := true, named := ["internal/bytealg.MaxLen"], apart := false, narrowed := true }
def ModuleBackUptoSaid : Prop := moduleBackUptoRow.holds Try.pinned (OpenSpec.upto moduleBackSpec)

/-- 'twinshaftlaw08.ModuleAgain', WHERE WHAT IT READS IS OF BULK AT MOST 1048576: true; the input reads as it did. -/
def moduleAgainUptoRow : OpenClaim := { program := "ytdngflhfhmnipaa", sum := "28e18f4a9ebaef13691e7b4b00f70b40ba939caa68fa8d09adb2ad35aa45b7be", func := "twinshaft/twinshaftlaw08.ModuleAgain", spec := "moduleAgain", inPlace := ["internal/bytealg.CountString", "internal/bytealg.IndexByteString", "internal/bytealg.IndexString"], unfollowed := true, recurses := true, named := ["internal/bytealg.MaxLen"], apart := false, narrowed := true }
def ModuleAgainUptoSaid : Prop := moduleAgainUptoRow.holds Try.pinned (OpenSpec.upto moduleAgainSpec)

/-- 'twinshaftlaw08.ModuleSame', WHERE WHAT IT READS IS OF BULK AT MOST 1048576: true; the input reads as it did. -/
def moduleSameUptoRow : OpenClaim := { program := "ytdngflhfhmnipaa", sum := "28e18f4a9ebaef13691e7b4b00f70b40ba939caa68fa8d09adb2ad35aa45b7be", func := "twinshaft/twinshaftlaw08.ModuleSame", spec := "moduleSame", inPlace := ["internal/bytealg.CountString", "internal/bytealg.IndexByteString", "internal/bytealg.IndexString"], unfollowed := true, recurses := true, named := ["internal/bytealg.MaxLen"], apart := false, narrowed := true }
def ModuleSameUptoSaid : Prop := moduleSameUptoRow.holds Try.pinned (OpenSpec.upto moduleSameSpec)

end Rows
end Go.Proofs.Ytdngflhfhmnipaa
