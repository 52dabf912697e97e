/-
  No cell of these rows narrows 'for every input' (looked for: loops, veiled, ifaces, maps, wideKeys, modest, calm, conditions, laid).
  DERIVED. THE GIVEN ROWS OF THIS SEAT. 3 by the template 'for every input the law returns true; each argument reads behind the call as it read before'; 0 by the template 'total and deterministic' (their statements: YtofahdjnejodjaaTotals.lean).
  GIVEN WITH THE SEED: the statements are not yours to turn. If you find one false, say at which input.
  Laid BY PROGRAM, IN A SANDBOX (cutbox-rows.mjs): the forced cells as the released guide's own fill.sh prints them over the translation 92d3b2f19774af2c… (all of the seat's roots in one cut). By AI agents, Wed Nov 11 2026. No macro, syntax, notation, axiom, sorry.
-/
import Derived.Test.YtofahdjnejodjaaChecked
import GoSem.Claim
import GoSem.ClaimJoined
import GoSem.ClaimMapViews
import Derived.JoinedTies
import Derived.KernelRfl
namespace Go.Proofs.Ytofahdjnejodjaa
/- THE CELL 'sum', in the pinned program and in every row, IS THE sha256 OF THE DUMP (.gsa) THAT YtofahdjnejodjaaProg.lean LOADS. Nothing in Lean hashes anything: it is a label: what it is worth is what the hold of that sum in a sandbox is worth. -/
noncomputable def Try.pinned : Pinned := { name := "ytofahdjnejodjaa", sum := "92d3b2f19774af2c2346f57254dda5b2d574365dcdd740ed207fa70ca0a2af3a", checked := Try.checked }
namespace Rows
def none {H : Type} : Left H := { results := [], args := [] }

/-- 'twinshaftlaw11.SureKnown': WHATEVER THE INPUT: true; the input reads as it did. -/
def sureKnownSpec : ChangeSpec := { name := "sureKnown", fn := fun _ => fun
  | [] => { results := [.lit (.bool true)], args := [] }
  | _ => none }
def sureKnownRow : OpenClaim := { program := "ytofahdjnejodjaa", sum := "92d3b2f19774af2c2346f57254dda5b2d574365dcdd740ed207fa70ca0a2af3a", func := "twinshaft/twinshaftlaw11.SureKnown", spec := "sureKnown", inPlace := ["internal/bytealg.CountString", "internal/bytealg.IndexByteString", "internal/bytealg.IndexString"], unfollowed := true, recurses := true, named := ["internal/bytealg.MaxLen"], apart := false }
def SureKnownSaid : Prop := sureKnownRow.holds Try.pinned (OpenSpec.ofChange sureKnownSpec)

/-- ITS FALSE NEIGHBOUR: 'it returns false'. Refute it at one input. -/
def sureKnownWrong : ChangeSpec := { name := "sureKnown", fn := fun _ => fun
  | [] => { results := [.lit (.bool false)], args := [] }
  | _ => none }
def SureKnownWrongFalsely : Prop := sureKnownRow.holds Try.pinned (OpenSpec.ofChange sureKnownWrong)

/-- 'twinshaftlaw11.SureWalks': WHATEVER THE INPUT: true; the input reads as it did. -/
def sureWalksSpec : ChangeSpec := { name := "sureWalks", fn := fun _ => fun
  | [d1, d2, d3] => { results := [.lit (.bool true)], args := [d1, d2, d3] }
  | _ => none }
def sureWalksRow : OpenClaim := { program := "ytofahdjnejodjaa", sum := "92d3b2f19774af2c2346f57254dda5b2d574365dcdd740ed207fa70ca0a2af3a", func := "twinshaft/twinshaftlaw11.SureWalks", spec := "sureWalks", inPlace := ["internal/bytealg.CountString", "internal/bytealg.IndexByteString", "internal/bytealg.IndexString"], unfollowed := true, recurses := true, named := ["internal/bytealg.MaxLen"], apart := false }
def SureWalksSaid : Prop := sureWalksRow.holds Try.pinned (OpenSpec.ofChange sureWalksSpec)

/-- ITS FALSE NEIGHBOUR: 'it returns false'. Refute it at one input. -/
def sureWalksWrong : ChangeSpec := { name := "sureWalks", fn := fun _ => fun
  | [d1, d2, d3] => { results := [.lit (.bool false)], args := [d1, d2, d3] }
  | _ => none }
def SureWalksWrongFalsely : Prop := sureWalksRow.holds Try.pinned (OpenSpec.ofChange sureWalksWrong)

/-- 'twinshaftlaw11.SureLeast': WHATEVER THE INPUT: true; the input reads as it did. -/
def sureLeastSpec : ChangeSpec := { name := "sureLeast", fn := fun _ => fun
  | [d1, d2, d3] => { results := [.lit (.bool true)], args := [d1, d2, d3] }
  | _ => none }
def sureLeastRow : OpenClaim := { program := "ytofahdjnejodjaa", sum := "92d3b2f19774af2c2346f57254dda5b2d574365dcdd740ed207fa70ca0a2af3a", func := "twinshaft/twinshaftlaw11.SureLeast", spec := "sureLeast", inPlace := ["internal/bytealg.CountString", "internal/bytealg.IndexByteString", "internal/bytealg.IndexString"], unfollowed := true, recurses := true, named := ["internal/bytealg.MaxLen"], apart := false }
def SureLeastSaid : Prop := sureLeastRow.holds Try.pinned (OpenSpec.ofChange sureLeastSpec)

/-- ITS FALSE NEIGHBOUR: 'it returns false'. Refute it at one input. -/
def sureLeastWrong : ChangeSpec := { name := "sureLeast", fn := fun _ => fun
  | [d1, d2, d3] => { results := [.lit (.bool false)], args := [d1, d2, d3] }
  | _ => none }
def SureLeastWrongFalsely : Prop := sureLeastRow.holds Try.pinned (OpenSpec.ofChange sureLeastWrong)

/- THE SECOND FORM. 'bulk': how many values and letters a reading holds, each counted each time it is reached (what is shared counts as often as it is met; a slice's spare places count too). A statement '..UptoSaid' is the law's where the arguments, and the package variables that the reading takes, are together of bulk at most 1048576: NARROWER than '..Said'. Prove '..Said' where nothing that the law and all that it calls make is longer than what came in: it says more and counts as full. Else prove '..UptoSaid'. A law counts once. -/
mutual
def uptoBulk {H : Type} : DataW H → Nat
  | .lit (.string bytes) => bytes.length + 1
  | .lit _ => 1
  | .nil => 1
  | .ptr d => uptoBulk d + 1
  | .slice elems spare => uptoBulkAll elems + uptoBulkAll spare + 1
  | .agg parts => uptoBulkAll parts + 1
  | .iface _ d => uptoBulk d + 1
  | .map entries => uptoBulkEntries entries + 1
  | .held _ => 1
def uptoBulkAll {H : Type} : List (DataW H) → Nat
  | [] => 0
  | d :: r => uptoBulk d + uptoBulkAll r
def uptoBulkEntries {H : Type} : List (Lit × DataW H) → Nat
  | [] => 0
  | x :: r => uptoBulkEntry x + uptoBulkEntries r
def uptoBulkEntry {H : Type} : Lit × DataW H → Nat
  | (.string bytes, d) => bytes.length + uptoBulk d + 1
  | (_, d) => uptoBulk d + 1
 end
def uptoSmall : (H : Type) → List (DataW H) → Bool := fun _ ds => decide (uptoBulkAll ds ≤ 1048576)
def OpenSpec.upto (s : _root_.Go.ChangeSpec) : _root_.Go.OpenSpec := { _root_.Go.OpenSpec.ofChange s with cond := some uptoSmall }

/-- 'twinshaftlaw11.SureKnown', WHERE WHAT IT READS IS OF BULK AT MOST 1048576: true; the input reads as it did. -/
def sureKnownUptoRow : OpenClaim := { program := "ytofahdjnejodjaa", sum := "92d3b2f19774af2c2346f57254dda5b2d574365dcdd740ed207fa70ca0a2af3a", func := "twinshaft/twinshaftlaw11.SureKnown", spec := "sureKnown", inPlace := ["internal/bytealg.CountString", "internal/bytealg.IndexByteString", "internal/bytealg.IndexString"], unfollowed := true, recurses := true, named := ["internal/bytealg.MaxLen"], apart := false, narrowed := true }
def SureKnownUptoSaid : Prop := sureKnownUptoRow.holds Try.pinned (OpenSpec.upto sureKnownSpec)

/-- 'twinshaftlaw11.SureWalks', WHERE WHAT IT READS IS OF BULK AT MOST 1048576: true; the input reads as it did. -/
def sureWalksUptoRow : OpenClaim := { program := "ytofahdjnejodjaa", sum := "92d3b2f19774af2c2346f57254dda5b2d574365dcdd740ed207fa70ca0a2af3a", func := "twinshaft/twinshaftlaw11.SureWalks", spec := "sureWalks", inPlace := ["internal/bytealg.CountString", "internal/bytealg.IndexByteString", "internal/bytealg.IndexString"], unfollowed := true, recurses := true, named := ["internal/bytealg.MaxLen"], apart := false, narrowed := true }
def SureWalksUptoSaid : Prop := sureWalksUptoRow.holds Try.pinned (OpenSpec.upto sureWalksSpec)

/-- 'twinshaftlaw11.SureLeast', WHERE WHAT IT READS IS OF BULK AT MOST 1048576: true; the input reads as it did. -/
def sureLeastUptoRow : OpenClaim := { program := "ytofahdjnejodjaa", sum := "92d3b2f19774af2c2346f57254dda5b2d574365dcdd740ed207fa70ca0a2af3a", func := "twinshaft/twinshaftlaw11.SureLeast", spec := "sureLeast", inPlace := ["internal/bytealg.CountString", "internal/bytealg.IndexByteString", "internal/bytealg.IndexString"], unfollowed := true, recurses := true, named := ["internal/bytealg.MaxLen"], apart := false, narrowed := true }
def SureLeastUptoSaid : Prop := sureLeastUptoRow.holds Try.pinned (OpenSpec.upto sureLeastSpec)

end Rows
end Go.Proofs.Ytofahdjnejodjaa
