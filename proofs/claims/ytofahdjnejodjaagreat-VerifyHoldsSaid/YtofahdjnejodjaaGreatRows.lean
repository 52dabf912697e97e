/-
  No cell of these rows narrows 'for every input' (looked for: loops, veiled, ifaces, maps, wideKeys, modest, calm, conditions, laid).
  DERIVED. THE GIVEN ROWS OF THIS SEAT. 6 by the template 'for every input the law returns true; each argument reads behind the call as it read before'; 0 by the template 'total and deterministic' (their statements: YtofahdjnejodjaaGreatTotals.lean).
  GIVEN WITH THE SEED: the statements are not yours to turn. If you find one false, say at which input.
  Laid BY PROGRAM, IN A SANDBOX (cutbox-rows.mjs): the forced cells as the released guide's own fill.sh prints them over the translation 85496e252461f653… (all of the seat's roots in one cut). By AI agents, Wed Nov 11 2026. No macro, syntax, notation, axiom, sorry.
-/
import Derived.Test.YtofahdjnejodjaaGreatChecked
import GoSem.Claim
import GoSem.ClaimJoined
import GoSem.ClaimMapViews
import Derived.JoinedTies
import Derived.KernelRfl
namespace Go.Proofs.YtofahdjnejodjaaGreat
/- THE CELL 'sum', in the pinned program and in every row, IS THE sha256 OF THE DUMP (.gsa) THAT YtofahdjnejodjaaGreatProg.lean LOADS. Nothing in Lean hashes anything: it is a label: what it is worth is what the hold of that sum in a sandbox is worth. -/
noncomputable def Tryz.pinned : Pinned := { name := "ytofahdjnejodjaagreat", sum := "85496e252461f65315c7eb175994ce51da9941aa88c1e6d4715c9514a39016e3", checked := Tryz.checked }
namespace Rows
def none {H : Type} : Left H := { results := [], args := [] }

/-- 'twinshaftlaw11.SureTells': WHATEVER THE INPUT: true; the input reads as it did. -/
def sureTellsSpec : ChangeSpec := { name := "sureTells", fn := fun _ => fun
  | [d1, d2] => { results := [.lit (.bool true)], args := [d1, d2] }
  | _ => none }
def sureTellsRow : OpenClaim := { program := "ytofahdjnejodjaagreat", sum := "85496e252461f65315c7eb175994ce51da9941aa88c1e6d4715c9514a39016e3", func := "twinshaft/twinshaftlaw11.SureTells", spec := "sureTells", inPlace := ["internal/bytealg.CountString", "internal/bytealg.IndexByteString", "internal/bytealg.IndexString"], unfollowed := true, recurses := true, named := ["internal/bytealg.MaxLen"], apart := false }
def SureTellsSaid : Prop := sureTellsRow.holds Tryz.pinned (OpenSpec.ofChange sureTellsSpec)

/-- ITS FALSE NEIGHBOUR: 'it returns false'. Refute it at one input. -/
def sureTellsWrong : ChangeSpec := { name := "sureTells", fn := fun _ => fun
  | [d1, d2] => { results := [.lit (.bool false)], args := [d1, d2] }
  | _ => none }
def SureTellsWrongFalsely : Prop := sureTellsRow.holds Tryz.pinned (OpenSpec.ofChange sureTellsWrong)

/-- 'twinshaftlaw12.VerifyFinds': WHATEVER THE INPUT: true; the input reads as it did. -/
def verifyFindsSpec : ChangeSpec := { name := "verifyFinds", fn := fun _ => fun
  | [d] => { results := [.lit (.bool true)], args := [d] }
  | _ => none }
def verifyFindsRow : OpenClaim := { program := "ytofahdjnejodjaagreat", sum := "85496e252461f65315c7eb175994ce51da9941aa88c1e6d4715c9514a39016e3", func := "twinshaft/twinshaftlaw12.VerifyFinds", spec := "verifyFinds", inPlace := ["internal/bytealg.CountString", "internal/bytealg.IndexByteString", "internal/bytealg.IndexString"], unfollowed := true, recurses := true, named := ["internal/bytealg.MaxLen"], apart := false }
def VerifyFindsSaid : Prop := verifyFindsRow.holds Tryz.pinned (OpenSpec.ofChange verifyFindsSpec)

/-- ITS FALSE NEIGHBOUR: 'it returns false'. Refute it at one input. -/
def verifyFindsWrong : ChangeSpec := { name := "verifyFinds", fn := fun _ => fun
  | [d] => { results := [.lit (.bool false)], args := [d] }
  | _ => none }
def VerifyFindsWrongFalsely : Prop := verifyFindsRow.holds Tryz.pinned (OpenSpec.ofChange verifyFindsWrong)

/-- 'twinshaftlaw12.VerifyKnown': WHATEVER THE INPUT: true; the input reads as it did. -/
def verifyKnownSpec : ChangeSpec := { name := "verifyKnown", fn := fun _ => fun
  | [] => { results := [.lit (.bool true)], args := [] }
  | _ => none }
def verifyKnownRow : OpenClaim := { program := "ytofahdjnejodjaagreat", sum := "85496e252461f65315c7eb175994ce51da9941aa88c1e6d4715c9514a39016e3", func := "twinshaft/twinshaftlaw12.VerifyKnown", spec := "verifyKnown", inPlace := ["internal/bytealg.CountString", "internal/bytealg.IndexByteString", "internal/bytealg.IndexString"], unfollowed := true, recurses := true, named := ["internal/bytealg.MaxLen"], apart := false }
def VerifyKnownSaid : Prop := verifyKnownRow.holds Tryz.pinned (OpenSpec.ofChange verifyKnownSpec)

/-- ITS FALSE NEIGHBOUR: 'it returns false'. Refute it at one input. -/
def verifyKnownWrong : ChangeSpec := { name := "verifyKnown", fn := fun _ => fun
  | [] => { results := [.lit (.bool false)], args := [] }
  | _ => none }
def VerifyKnownWrongFalsely : Prop := verifyKnownRow.holds Tryz.pinned (OpenSpec.ofChange verifyKnownWrong)

/-- 'twinshaftlaw12.VerifyHolds': WHATEVER THE INPUT: true; the input reads as it did. -/
def verifyHoldsSpec : ChangeSpec := { name := "verifyHolds", fn := fun _ => fun
  | [d1, d2, d3] => { results := [.lit (.bool true)], args := [d1, d2, d3] }
  | _ => none }
def verifyHoldsRow : OpenClaim := { program := "ytofahdjnejodjaagreat", sum := "85496e252461f65315c7eb175994ce51da9941aa88c1e6d4715c9514a39016e3", func := "twinshaft/twinshaftlaw12.VerifyHolds", spec := "verifyHolds", inPlace := ["internal/bytealg.CountString", "internal/bytealg.IndexByteString", "internal/bytealg.IndexString"], unfollowed := true, recurses := true, named := ["internal/bytealg.MaxLen"], apart := false }
def VerifyHoldsSaid : Prop := verifyHoldsRow.holds Tryz.pinned (OpenSpec.ofChange verifyHoldsSpec)

/-- ITS FALSE NEIGHBOUR: 'it returns false'. Refute it at one input. -/
def verifyHoldsWrong : ChangeSpec := { name := "verifyHolds", fn := fun _ => fun
  | [d1, d2, d3] => { results := [.lit (.bool false)], args := [d1, d2, d3] }
  | _ => none }
def VerifyHoldsWrongFalsely : Prop := verifyHoldsRow.holds Tryz.pinned (OpenSpec.ofChange verifyHoldsWrong)

/-- 'twinshaftlaw12.VerifyMore': WHATEVER THE INPUT: true; the input reads as it did. -/
def verifyMoreSpec : ChangeSpec := { name := "verifyMore", fn := fun _ => fun
  | [d1, d2, d3] => { results := [.lit (.bool true)], args := [d1, d2, d3] }
  | _ => none }
def verifyMoreRow : OpenClaim := { program := "ytofahdjnejodjaagreat", sum := "85496e252461f65315c7eb175994ce51da9941aa88c1e6d4715c9514a39016e3", func := "twinshaft/twinshaftlaw12.VerifyMore", spec := "verifyMore", inPlace := ["internal/bytealg.CountString", "internal/bytealg.IndexByteString", "internal/bytealg.IndexString"], unfollowed := true, recurses := true, named := ["internal/bytealg.MaxLen"], apart := false }
def VerifyMoreSaid : Prop := verifyMoreRow.holds Tryz.pinned (OpenSpec.ofChange verifyMoreSpec)

/-- ITS FALSE NEIGHBOUR: 'it returns false'. Refute it at one input. -/
def verifyMoreWrong : ChangeSpec := { name := "verifyMore", fn := fun _ => fun
  | [d1, d2, d3] => { results := [.lit (.bool false)], args := [d1, d2, d3] }
  | _ => none }
def VerifyMoreWrongFalsely : Prop := verifyMoreRow.holds Tryz.pinned (OpenSpec.ofChange verifyMoreWrong)

/-- 'twinshaftlaw12.VerifyTurned': WHATEVER THE INPUT: true; the input reads as it did. -/
def verifyTurnedSpec : ChangeSpec := { name := "verifyTurned", fn := fun _ => fun
  | [d1, d2, d3] => { results := [.lit (.bool true)], args := [d1, d2, d3] }
  | _ => none }
def verifyTurnedRow : OpenClaim := { program := "ytofahdjnejodjaagreat", sum := "85496e252461f65315c7eb175994ce51da9941aa88c1e6d4715c9514a39016e3", func := "twinshaft/twinshaftlaw12.VerifyTurned", spec := "verifyTurned", inPlace := ["internal/bytealg.CountString", "internal/bytealg.IndexByteString", "internal/bytealg.IndexString"], unfollowed := true, recurses := true, named := ["internal/bytealg.MaxLen"], apart := false }
def VerifyTurnedSaid : Prop := verifyTurnedRow.holds Tryz.pinned (OpenSpec.ofChange verifyTurnedSpec)

/-- ITS FALSE NEIGHBOUR: 'it returns false'. Refute it at one input. -/
def verifyTurnedWrong : ChangeSpec := { name := "verifyTurned", fn := fun _ => fun
  | [d1, d2, d3] => { results := [.lit (.bool false)], args := [d1, d2, d3] }
  | _ => none }
def VerifyTurnedWrongFalsely : Prop := verifyTurnedRow.holds Tryz.pinned (OpenSpec.ofChange verifyTurnedWrong)

/- THE SECOND FORM. 'bulk': how many values and letters a reading holds, each counted each time it is reached (what is shared counts as often as it is met; a slice's spare places count too). A statement '..UptoSaid' is the law's where the arguments, and the package variables that the reading takes, are together of bulk at most 1048576: NARROWER than '..Said'. Prove '..Said' where nothing that the law and all that it calls make is longer than what came in: it says more and counts as full. Else prove '..UptoSaid'. A law counts once. -/
mutual
def uptoBulk {H : Type} : DataW H → Nat
  | .lit (.string bytes) => bytes.length + 1
  | .lit _ => 1
  | .nil => 1
  | .ptr d => uptoBulk d + 1
  | .slice elems spare => uptoBulkAll elems + uptoBulkAll spare + 1
  | .agg parts => uptoBulkAll parts + 1
  | .iface _ d => uptoBulk d + 1
  | .map entries => uptoBulkEntries entries + 1
  | .held _ => 1
def uptoBulkAll {H : Type} : List (DataW H) → Nat
  | [] => 0
  | d :: r => uptoBulk d + uptoBulkAll r
def uptoBulkEntries {H : Type} : List (Lit × DataW H) → Nat
  | [] => 0
  | x :: r => uptoBulkEntry x + uptoBulkEntries r
def uptoBulkEntry {H : Type} : Lit × DataW H → Nat
  | (.string bytes, d) => bytes.length + uptoBulk d + 1
  | (_, d) => uptoBulk d + 1
 end
def uptoSmall : (H : Type) → List (DataW H) → Bool := fun _ ds => decide (uptoBulkAll ds ≤ 1048576)
def OpenSpec.upto (s : _root_.Go.ChangeSpec) : _root_.Go.OpenSpec := { _root_.Go.OpenSpec.ofChange s with cond := some uptoSmall }

/-- 'twinshaftlaw11.SureTells', WHERE WHAT IT READS IS OF BULK AT MOST 1048576: true; the input reads as it did. -/
def sureTellsUptoRow : OpenClaim := { program := "ytofahdjnejodjaagreat", sum := "85496e252461f65315c7eb175994ce51da9941aa88c1e6d4715c9514a39016e3", func := "twinshaft/twinshaftlaw11.SureTells", spec := "sureTells", inPlace := ["internal/bytealg.CountString", "internal/bytealg.IndexByteString", "internal/bytealg.IndexString"], unfollowed := true, recurses := true, named := ["internal/bytealg.MaxLen"], apart := false, narrowed := true }
def SureTellsUptoSaid : Prop := sureTellsUptoRow.holds Tryz.pinned (OpenSpec.upto sureTellsSpec)

/-- 'twinshaftlaw12.VerifyFinds', WHERE WHAT IT READS IS OF BULK AT MOST 1048576: true; the input reads as it did. -/
def verifyFindsUptoRow : OpenClaim := { program := "ytofahdjnejodjaagreat", sum := "85496e252461f65315c7eb175994ce51da9941aa88c1e6d4715c9514a39016e3", func := "twinshaft/twinshaftlaw12.VerifyFinds", spec := "verifyFinds", inPlace := ["internal/bytealg.CountString", "internal/bytealg.IndexByteString", "internal/bytealg.IndexString"], unfollowed := true, recurses := true, named := ["internal/bytealg.MaxLen"], apart := false, narrowed := true }
def VerifyFindsUptoSaid : Prop := verifyFindsUptoRow.holds Tryz.pinned (OpenSpec.upto verifyFindsSpec)

/-- 'twinshaftlaw12.VerifyKnown', WHERE WHAT IT READS IS OF BULK AT MOST 1048576: true; the input reads as it did. -/
def verifyKnownUptoRow : OpenClaim := { program := "ytofahdjnejodjaagreat", sum := "85496e252461f65315c7eb175994ce51da9941aa88c1e6d4715c9514a39016e3", func := "twinshaft/twinshaftlaw12.VerifyKnown", spec := "verifyKnown", inPlace := ["internal/bytealg.CountString", "internal/bytealg.IndexByteString", "internal/bytealg.IndexString"], unfollowed := true, recurses := true, named := ["internal/bytealg.MaxLen"], apart := false, narrowed := true }
def VerifyKnownUptoSaid : Prop := verifyKnownUptoRow.holds Tryz.pinned (OpenSpec.upto verifyKnownSpec)

/-- 'twinshaftlaw12.VerifyHolds', WHERE WHAT IT READS IS OF BULK AT MOST 1048576: true; the input reads as it did. -/
def verifyHoldsUptoRow : OpenClaim := { program := "ytofahdjnejodjaagreat", sum := "85496e252461f65315c7eb175994ce51da9941aa88c1e6d4715c9514a39016e3", func := "twinshaft/twinshaftlaw12.VerifyHolds", spec := "verifyHolds", inPlace := ["internal/bytealg.CountString", "internal/bytealg.IndexByteString", "internal/bytealg.IndexString"], unfollowed := true, recurses := true, named := ["internal/bytealg.MaxLen"], apart := false, narrowed := true }
def VerifyHoldsUptoSaid : Prop := verifyHoldsUptoRow.holds Tryz.pinned (OpenSpec.upto verifyHoldsSpec)

/-- 'twinshaftlaw12.VerifyMore', WHERE WHAT IT READS IS OF BULK AT MOST 1048576: true; the input reads as it did. -/
def verifyMoreUptoRow : OpenClaim := { program := "ytofahdjnejodjaagreat", sum := "85496e252461f65315c7eb175994ce51da9941aa88c1e6d4715c9514a39016e3", func := "twinshaft/twinshaftlaw12.VerifyMore", spec := "verifyMore", inPlace := ["internal/bytealg.CountString", "internal/bytealg.IndexByteString", "internal/bytealg.IndexString"], unfollowed := true, recurses := true, named := ["internal/bytealg.MaxLen"], apart := false, narrowed := true }
def VerifyMoreUptoSaid : Prop := verifyMoreUptoRow.holds Tryz.pinned (OpenSpec.upto verifyMoreSpec)

/-- 'twinshaftlaw12.VerifyTurned', WHERE WHAT IT READS IS OF BULK AT MOST 1048576: true; the input reads as it did. -/
def verifyTurnedUptoRow : OpenClaim := { program := "ytofahdjnejodjaagreat", sum := "85496e252461f65315c7eb175994ce51da9941aa88c1e6d4715c9514a39016e3", func := "twinshaft/twinshaftlaw12.VerifyTurned", spec := "verifyTurned", inPlace := ["internal/bytealg.CountString", "internal/bytealg.IndexByteString", "internal/bytealg.IndexString"], unfollowed := true, recurses := true, named := ["internal/bytealg.MaxLen"], apart := false, narrowed := true }
def VerifyTurnedUptoSaid : Prop := verifyTurnedUptoRow.holds Tryz.pinned (OpenSpec.upto verifyTurnedSpec)

end Rows
end Go.Proofs.YtofahdjnejodjaaGreat
