/-
  No cell of these rows narrows 'for every input' (looked for: loops, veiled, ifaces, maps, wideKeys, modest, calm, conditions, laid).
  DERIVED. THE GIVEN ROWS OF THIS SEAT. 2 by the template 'for every input the law returns true; each argument reads behind the call as it read before'; 0 by the template 'total and deterministic' (their statements: YtdngflhfhmnipaaGreatTotals.lean).
  GIVEN WITH THE SEED: the statements are not yours to turn. If you find one false, say at which input.
  Laid BY PROGRAM, IN A SANDBOX (cutbox-rows.mjs): the forced cells as the released guide's own fill.sh prints them over the translation b76c72a919a4ec00… (all of the seat's roots in one cut). By AI agents, Wed Nov 11 2026. No macro, syntax, notation, axiom, sorry.
-/
import Derived.Test.YtdngflhfhmnipaaGreatChecked
import GoSem.Claim
import GoSem.ClaimJoined
import GoSem.ClaimMapViews
import Derived.JoinedTies
import Derived.KernelRfl
namespace Go.Proofs.YtdngflhfhmnipaaGreat
/- THE CELL 'sum', in the pinned program and in every row, IS THE sha256 OF THE DUMP (.gsa) THAT YtdngflhfhmnipaaGreatProg.lean LOADS. Nothing in Lean hashes anything: it is a label: what it is worth is what the hold of that sum in a sandbox is worth. -/
noncomputable def Tryz.pinned : Pinned := { name := "ytdngflhfhmnipaagreat", sum := "b76c72a919a4ec004f847619ecec24ae1c6cde6bbd0b1e904753bdfaec0c1649", checked := Tryz.checked }
namespace Rows
def none {H : Type} : Left H := { results := [], args := [] }

/-- 'twinshaftlaw08.ModulePuts': WHATEVER THE INPUT: true; the input reads as it did. -/
def modulePutsSpec : ChangeSpec := { name := "modulePuts", fn := fun _ => fun
  | [d1, d2] => { results := [.lit (.bool true)], args := [d1, d2] }
  | _ => none }
def modulePutsRow : OpenClaim := { program := "ytdngflhfhmnipaagreat", sum := "b76c72a919a4ec004f847619ecec24ae1c6cde6bbd0b1e904753bdfaec0c1649", func := "twinshaft/twinshaftlaw08.ModulePuts", spec := "modulePuts", inPlace := ["internal/bytealg.CountString", "internal/bytealg.IndexByteString", "internal/bytealg.IndexString"], unfollowed := true, recurses := true, named := ["internal/bytealg.MaxLen"], apart := false }
def ModulePutsSaid : Prop := modulePutsRow.holds Tryz.pinned (OpenSpec.ofChange modulePutsSpec)

/-- ITS FALSE NEIGHBOUR: 'it returns false'. Refute it at one input. -/
def modulePutsWrong : ChangeSpec := { name := "modulePuts", fn := fun _ => fun
  | [d1, d2] => { results := [.lit (.bool false)], args := [d1, d2] }
  | _ => none }
def ModulePutsWrongFalsely : Prop := modulePutsRow.holds Tryz.pinned (OpenSpec.ofChange modulePutsWrong)

/-- 'twinshaftlaw08.ModuleGets': WHATEVER THE INPUT: true; the input reads as it did. -/
def moduleGetsSpec : ChangeSpec := { name := "moduleGets", fn := fun _ => fun
  | [d] => { results := [.lit (.bool true)], args := [d] }
  | _ => none }
def moduleGetsRow : OpenClaim := { program := "ytdngflhfhmnipaagreat", sum := "b76c72a919a4ec004f847619ecec24ae1c6cde6bbd0b1e904753bdfaec0c1649", func := "twinshaft/twinshaftlaw08.ModuleGets", spec := "moduleGets", inPlace := ["internal/bytealg.CountString", "internal/bytealg.IndexByteString", "internal/bytealg.IndexString"], unfollowed := true, recurses := true, named := ["internal/bytealg.MaxLen"], apart := false }
def ModuleGetsSaid : Prop := moduleGetsRow.holds Tryz.pinned (OpenSpec.ofChange moduleGetsSpec)

/-- ITS FALSE NEIGHBOUR: 'it returns false'. Refute it at one input. -/
def moduleGetsWrong : ChangeSpec := { name := "moduleGets", fn := fun _ => fun
  | [d] => { results := [.lit (.bool false)], args := [d] }
  | _ => none }
def ModuleGetsWrongFalsely : Prop := moduleGetsRow.holds Tryz.pinned (OpenSpec.ofChange moduleGetsWrong)

/- THE SECOND FORM. 'bulk': how many values and letters a reading holds, each counted each time it is reached (what is shared counts as often as it is met; a slice's spare places count too). A statement '..UptoSaid' is the law's where the arguments, and the package variables that the reading takes, are together of bulk at most 1048576: NARROWER than '..Said'. Prove '..Said' where nothing that the law and all that it calls make is longer than what came in: it says more and counts as full. Else prove '..UptoSaid'. A law counts once. -/
mutual
def uptoBulk {H : Type} : DataW H → Nat
  | .lit (.string bytes) => bytes.length + 1
  | .lit _ => 1
  | .nil => 1
  | .ptr d => uptoBulk d + 1
  | .slice elems spare => uptoBulkAll elems + uptoBulkAll spare + 1
  | .agg parts => uptoBulkAll parts + 1
  | .iface _ d => uptoBulk d + 1
  | .map entries => uptoBulkEntries entries + 1
  | .held _ => 1
def uptoBulkAll {H : Type} : List (DataW H) → Nat
  | [] => 0
  | d :: r => uptoBulk d + uptoBulkAll r
def uptoBulkEntries {H : Type} : List (Lit × DataW H) → Nat
  | [] => 0
  | x :: r => uptoBulkEntry x + uptoBulkEntries r
def uptoBulkEntry {H : Type} : Lit × DataW H → Nat
  | (.string bytes, d) => bytes.length + uptoBulk d + 1
  | (_, d) => uptoBulk d + 1
 end
def uptoSmall : (H : Type) → List (DataW H) → Bool := fun _ ds => decide (uptoBulkAll ds ≤ 1048576)
def OpenSpec.upto (s : _root_.Go.ChangeSpec) : _root_.Go.OpenSpec := { _root_.Go.OpenSpec.ofChange s with cond := some uptoSmall }

/-- 'twinshaftlaw08.ModulePuts', WHERE WHAT IT READS IS OF BULK AT MOST 1048576: true; the input reads as it did. -/
def modulePutsUptoRow : OpenClaim := { program := "ytdngflhfhmnipaagreat", sum := "b76c72a919a4ec004f847619ecec24ae1c6cde6bbd0b1e904753bdfaec0c1649", func := "twinshaft/twinshaftlaw08.ModulePuts", spec := "modulePuts", inPlace := ["internal/bytealg.CountString", "internal/bytealg.IndexByteString", "internal/bytealg.IndexString"], unfollowed := true, recurses := true, named := ["internal/bytealg.MaxLen"], apart := false, narrowed := true }
def ModulePutsUptoSaid : Prop := modulePutsUptoRow.holds Tryz.pinned (OpenSpec.upto modulePutsSpec)

/-- 'twinshaftlaw08.ModuleGets', WHERE WHAT IT READS IS OF BULK AT MOST 1048576: true; the input reads as it did. -/
def moduleGetsUptoRow : OpenClaim := { program := "ytdngflhfhmnipaagreat", sum := "b76c72a919a4ec004f847619ecec24ae1c6cde6bbd0b1e904753bdfaec0c1649", func := "twinshaft/twinshaftlaw08.ModuleGets", spec := "moduleGets", inPlace := ["internal/bytealg.CountString", "internal/bytealg.IndexByteString", "internal/bytealg.IndexString"], unfollowed := true, recurses := true, named := ["internal/bytealg.MaxLen"], apart := false, narrowed := true }
def ModuleGetsUptoSaid : Prop := moduleGetsUptoRow.holds Tryz.pinned (OpenSpec.upto moduleGetsSpec)

end Rows
end Go.Proofs.YtdngflhfhmnipaaGreat
