/-
  No cell of these rows narrows 'for every input' (looked for: loops, veiled, ifaces, maps, wideKeys, modest, calm, conditions, laid).
  DERIVED. THE GIVEN ROWS OF THIS SEAT. 5 by the template 'for every input the law returns true; each argument reads behind the call as it read before'; 0 by the template 'total and deterministic' (their statements: YtfiabeibiehlaaaTotals.lean).
  GIVEN WITH THE SEED: the statements are not yours to turn. If you find one false, say at which input.
  Laid BY PROGRAM, IN A SANDBOX (cutbox-rows.mjs): the forced cells as the released guide's own fill.sh prints them over the translation 552e2ae2f2b4e794… (all of the seat's roots in one cut). By AI agents, Wed Nov 11 2026. No macro, syntax, notation, axiom, sorry.
-/
import Derived.Test.YtfiabeibiehlaaaChecked
import GoSem.Claim
import GoSem.ClaimJoined
import GoSem.ClaimMapViews
import Derived.JoinedTies
import Derived.KernelRfl
namespace Go.Proofs.Ytfiabeibiehlaaa
/- THE CELL 'sum', in the pinned program and in every row, IS THE sha256 OF THE DUMP (.gsa) THAT YtfiabeibiehlaaaProg.lean LOADS. Nothing in Lean hashes anything: it is a label: what it is worth is what the hold of that sum in a sandbox is worth. -/
noncomputable def Try.pinned : Pinned := { name := "ytfiabeibiehlaaa", sum := "552e2ae2f2b4e794e015bf1d5a9f62f8dba938fa0ec6cd2e78d23f36dba690cb", checked := Try.checked }
namespace Rows
def none {H : Type} : Left H := { results := [], args := [] }

/-- 'twinshaftlaw21.PolicyScript': WHATEVER THE INPUT: true; the input reads as it did. -/
def policyScriptSpec : ChangeSpec := { name := "policyScript", fn := fun _ => fun
  | [d1, d2, d3] => { results := [.lit (.bool true)], args := [d1, d2, d3] }
  | _ => none }
def policyScriptRow : OpenClaim := { program := "ytfiabeibiehlaaa", sum := "552e2ae2f2b4e794e015bf1d5a9f62f8dba938fa0ec6cd2e78d23f36dba690cb", func := "twinshaft/twinshaftlaw21.PolicyScript", spec := "policyScript", inPlace := ["sync/atomic.AddInt64", "sync/atomic.LoadInt64"], unfollowed := true, recurses := true, apart := false }
def PolicyScriptSaid : Prop := policyScriptRow.holds Try.pinned (OpenSpec.ofChange policyScriptSpec)

/-- ITS FALSE NEIGHBOUR: 'it returns false'. Refute it at one input. -/
def policyScriptWrong : ChangeSpec := { name := "policyScript", fn := fun _ => fun
  | [d1, d2, d3] => { results := [.lit (.bool false)], args := [d1, d2, d3] }
  | _ => none }
def PolicyScriptWrongFalsely : Prop := policyScriptRow.holds Try.pinned (OpenSpec.ofChange policyScriptWrong)

/-- 'twinshaftlaw21.PolicyKnown': WHATEVER THE INPUT: true; the input reads as it did. -/
def policyKnownSpec : ChangeSpec := { name := "policyKnown", fn := fun _ => fun
  | [] => { results := [.lit (.bool true)], args := [] }
  | _ => none }
def policyKnownRow : OpenClaim := { program := "ytfiabeibiehlaaa", sum := "552e2ae2f2b4e794e015bf1d5a9f62f8dba938fa0ec6cd2e78d23f36dba690cb", func := "twinshaft/twinshaftlaw21.PolicyKnown", spec := "policyKnown", inPlace := ["sync/atomic.AddInt64", "sync/atomic.LoadInt64"], unfollowed := true, recurses := true, apart := false }
def PolicyKnownSaid : Prop := policyKnownRow.holds Try.pinned (OpenSpec.ofChange policyKnownSpec)

/-- ITS FALSE NEIGHBOUR: 'it returns false'. Refute it at one input. -/
def policyKnownWrong : ChangeSpec := { name := "policyKnown", fn := fun _ => fun
  | [] => { results := [.lit (.bool false)], args := [] }
  | _ => none }
def PolicyKnownWrongFalsely : Prop := policyKnownRow.holds Try.pinned (OpenSpec.ofChange policyKnownWrong)

/-- 'twinshaftlaw21.PolicyStays': WHATEVER THE INPUT: true; the input reads as it did. -/
def policyStaysSpec : ChangeSpec := { name := "policyStays", fn := fun _ => fun
  | [d1, d2, d3] => { results := [.lit (.bool true)], args := [d1, d2, d3] }
  | _ => none }
def policyStaysRow : OpenClaim := { program := "ytfiabeibiehlaaa", sum := "552e2ae2f2b4e794e015bf1d5a9f62f8dba938fa0ec6cd2e78d23f36dba690cb", func := "twinshaft/twinshaftlaw21.PolicyStays", spec := "policyStays", inPlace := ["sync/atomic.AddInt64", "sync/atomic.LoadInt64"], unfollowed := true, recurses := true, apart := false }
def PolicyStaysSaid : Prop := policyStaysRow.holds Try.pinned (OpenSpec.ofChange policyStaysSpec)

/-- ITS FALSE NEIGHBOUR: 'it returns false'. Refute it at one input. -/
def policyStaysWrong : ChangeSpec := { name := "policyStays", fn := fun _ => fun
  | [d1, d2, d3] => { results := [.lit (.bool false)], args := [d1, d2, d3] }
  | _ => none }
def PolicyStaysWrongFalsely : Prop := policyStaysRow.holds Try.pinned (OpenSpec.ofChange policyStaysWrong)

/-- 'twinshaftlaw21.PolicyNone': WHATEVER THE INPUT: true; the input reads as it did. -/
def policyNoneSpec : ChangeSpec := { name := "policyNone", fn := fun _ => fun
  | [d] => { results := [.lit (.bool true)], args := [d] }
  | _ => none }
def policyNoneRow : OpenClaim := { program := "ytfiabeibiehlaaa", sum := "552e2ae2f2b4e794e015bf1d5a9f62f8dba938fa0ec6cd2e78d23f36dba690cb", func := "twinshaft/twinshaftlaw21.PolicyNone", spec := "policyNone", inPlace := ["sync/atomic.AddInt64", "sync/atomic.LoadInt64", "sync/atomic.StoreInt64"], unfollowed := true, recurses := true, apart := false }
def PolicyNoneSaid : Prop := policyNoneRow.holds Try.pinned (OpenSpec.ofChange policyNoneSpec)

/-- ITS FALSE NEIGHBOUR: 'it returns false'. Refute it at one input. -/
def policyNoneWrong : ChangeSpec := { name := "policyNone", fn := fun _ => fun
  | [d] => { results := [.lit (.bool false)], args := [d] }
  | _ => none }
def PolicyNoneWrongFalsely : Prop := policyNoneRow.holds Try.pinned (OpenSpec.ofChange policyNoneWrong)

/-- 'twinshaftlaw21.PolicyCopies': WHATEVER THE INPUT: true; the input reads as it did. -/
def policyCopiesSpec : ChangeSpec := { name := "policyCopies", fn := fun _ => fun
  | [d1, d2, d3, d4] => { results := [.lit (.bool true)], args := [d1, d2, d3, d4] }
  | _ => none }
def policyCopiesRow : OpenClaim := { program := "ytfiabeibiehlaaa", sum := "552e2ae2f2b4e794e015bf1d5a9f62f8dba938fa0ec6cd2e78d23f36dba690cb", func := "twinshaft/twinshaftlaw21.PolicyCopies", spec := "policyCopies", inPlace := ["sync/atomic.AddInt64", "sync/atomic.LoadInt64", "sync/atomic.StoreInt64"], unfollowed := true, recurses := true, apart := false }
def PolicyCopiesSaid : Prop := policyCopiesRow.holds Try.pinned (OpenSpec.ofChange policyCopiesSpec)

/-- ITS FALSE NEIGHBOUR: 'it returns false'. Refute it at one input. -/
def policyCopiesWrong : ChangeSpec := { name := "policyCopies", fn := fun _ => fun
  | [d1, d2, d3, d4] => { results := [.lit (.bool false)], args := [d1, d2, d3, d4] }
  | _ => none }
def PolicyCopiesWrongFalsely : Prop := policyCopiesRow.holds Try.pinned (OpenSpec.ofChange policyCopiesWrong)

/- THE SECOND FORM. 'bulk': how many values and letters a reading holds, each counted each time it is reached (what is shared counts as often as it is met; a slice's spare places count too). A statement '..UptoSaid' is the law's where the arguments, and the package variables that the reading takes, are together of bulk at most 1048576: NARROWER than '..Said'. Prove '..Said' where nothing that the law and all that it calls make is longer than what came in: it says more and counts as full. Else prove '..UptoSaid'. A law counts once. -/
mutual
def uptoBulk {H : Type} : DataW H → Nat
  | .lit (.string bytes) => bytes.length + 1
  | .lit _ => 1
  | .nil => 1
  | .ptr d => uptoBulk d + 1
  | .slice elems spare => uptoBulkAll elems + uptoBulkAll spare + 1
  | .agg parts => uptoBulkAll parts + 1
  | .iface _ d => uptoBulk d + 1
  | .map entries => uptoBulkEntries entries + 1
  | .held _ => 1
def uptoBulkAll {H : Type} : List (DataW H) → Nat
  | [] => 0
  | d :: r => uptoBulk d + uptoBulkAll r
def uptoBulkEntries {H : Type} : List (Lit × DataW H) → Nat
  | [] => 0
  | x :: r => uptoBulkEntry x + uptoBulkEntries r
def uptoBulkEntry {H : Type} : Lit × DataW H → Nat
  | (.string bytes, d) => bytes.length + uptoBulk d + 1
  | (_, d) => uptoBulk d + 1
 end
def uptoSmall : (H : Type) → List (DataW H) → Bool := fun _ ds => decide (uptoBulkAll ds ≤ 1048576)
def OpenSpec.upto (s : _root_.Go.ChangeSpec) : _root_.Go.OpenSpec := { _root_.Go.OpenSpec.ofChange s with cond := some uptoSmall }

/-- 'twinshaftlaw21.PolicyScript', WHERE WHAT IT READS IS OF BULK AT MOST 1048576: true; the input reads as it did. -/
def policyScriptUptoRow : OpenClaim := { program := "ytfiabeibiehlaaa", sum := "552e2ae2f2b4e794e015bf1d5a9f62f8dba938fa0ec6cd2e78d23f36dba690cb", func := "twinshaft/twinshaftlaw21.PolicyScript", spec := "policyScript", inPlace := ["sync/atomic.AddInt64", "sync/atomic.LoadInt64"], unfollowed := true, recurses := true, apart := false, narrowed := true }
def PolicyScriptUptoSaid : Prop := policyScriptUptoRow.holds Try.pinned (OpenSpec.upto policyScriptSpec)

/-- 'twinshaftlaw21.PolicyKnown', WHERE WHAT IT READS IS OF BULK AT MOST 1048576: true; the input reads as it did. -/
def policyKnownUptoRow : OpenClaim := { program := "ytfiabeibiehlaaa", sum := "552e2ae2f2b4e794e015bf1d5a9f62f8dba938fa0ec6cd2e78d23f36dba690cb", func := "twinshaft/twinshaftlaw21.PolicyKnown", spec := "policyKnown", inPlace := ["sync/atomic.AddInt64", "sync/atomic.LoadInt64"], unfollowed := true, recurses := true, apart := false, narrowed := true }
def PolicyKnownUptoSaid : Prop := policyKnownUptoRow.holds Try.pinned (OpenSpec.upto policyKnownSpec)

/-- 'twinshaftlaw21.PolicyStays', WHERE WHAT IT READS IS OF BULK AT MOST 1048576: true; the input reads as it did. -/
def policyStaysUptoRow : OpenClaim := { program := "ytfiabeibiehlaaa", sum := "552e2ae2f2b4e794e015bf1d5a9f62f8dba938fa0ec6cd2e78d23f36dba690cb", func := "twinshaft/twinshaftlaw21.PolicyStays", spec := "policyStays", inPlace := ["sync/atomic.AddInt64", "sync/atomic.LoadInt64"], unfollowed := true, recurses := true, apart := false, narrowed := true }
def PolicyStaysUptoSaid : Prop := policyStaysUptoRow.holds Try.pinned (OpenSpec.upto policyStaysSpec)

/-- 'twinshaftlaw21.PolicyNone', WHERE WHAT IT READS IS OF BULK AT MOST 1048576: true; the input reads as it did. -/
def policyNoneUptoRow : OpenClaim := { program := "ytfiabeibiehlaaa", sum := "552e2ae2f2b4e794e015bf1d5a9f62f8dba938fa0ec6cd2e78d23f36dba690cb", func := "twinshaft/twinshaftlaw21.PolicyNone", spec := "policyNone", inPlace := ["sync/atomic.AddInt64", "sync/atomic.LoadInt64", "sync/atomic.StoreInt64"], unfollowed := true, recurses := true, apart := false, narrowed := true }
def PolicyNoneUptoSaid : Prop := policyNoneUptoRow.holds Try.pinned (OpenSpec.upto policyNoneSpec)

/-- 'twinshaftlaw21.PolicyCopies', WHERE WHAT IT READS IS OF BULK AT MOST 1048576: true; the input reads as it did. -/
def policyCopiesUptoRow : OpenClaim := { program := "ytfiabeibiehlaaa", sum := "552e2ae2f2b4e794e015bf1d5a9f62f8dba938fa0ec6cd2e78d23f36dba690cb", func := "twinshaft/twinshaftlaw21.PolicyCopies", spec := "policyCopies", inPlace := ["sync/atomic.AddInt64", "sync/atomic.LoadInt64", "sync/atomic.StoreInt64"], unfollowed := true, recurses := true, apart := false, narrowed := true }
def PolicyCopiesUptoSaid : Prop := policyCopiesUptoRow.holds Try.pinned (OpenSpec.upto policyCopiesSpec)

end Rows
end Go.Proofs.Ytfiabeibiehlaaa
