/-
  DERIVED. GIVEN WITH THE SEED: THE CARDS: each row of YtjpkmaacalelcaaDoorRows.lean that lists a variable, with what it lists TIED to the program's text (the seventh form; the later family's looks); each row that meets fmt, with fmt's text TOLD by the authors' own Lean function (tested against real Go, not proved from fmt's source: count such statements apart). THE CARD IS WHAT COUNTS. Prove the row's statement (the work); the ties are given (YtjpkmaacalelcaaDoorTie.lean); close each card by the builder's one call (the guide's Derived/Test/ToyasCard.lean, 'card_holds'). Laid BY PROGRAM, IN A SANDBOX (cutbox-door.mjs). By AI agents, Wed Nov 11 2026. No macro, syntax, notation, axiom, sorry.
-/
import Derived.Test.YtjpkmaacalelcaaDoorRows
import GoSem.ClaimSeven
namespace Go.Proofs.YtjpkmaacalelcaaDoor
namespace Rows

/-- THE TIED CARD OF 'twinshaftlaw24.TypesMeasure'. -/
def typesMeasureCard : Claim7 := { stood := { row := typesMeasureRow, standIns := [], harness := (true, "99b57130467a01112a483ee59949b5a07c7b14296682fe5a07060ecccbc65aa6"), looks := false }, kinds := [], alts := [], laidByText := true, laidKinds := [.data, .data, .data], laidTests := true, laidLooks := .later }
def TypesMeasureCardSaid : Prop := Claim7.holds Tryd.pinned (.plain (OpenSpec.ofChange typesMeasureSpec)) typesMeasureCard

/-- THE TIED CARD OF 'twinshaftlaw24.TypesKnown'. -/
def typesKnownCard : Claim7 := { stood := { row := typesKnownRow, standIns := [], harness := (true, "99b57130467a01112a483ee59949b5a07c7b14296682fe5a07060ecccbc65aa6"), looks := false }, kinds := [], alts := [], laidByText := true, laidKinds := [.data, .data, .data], laidTests := true, laidLooks := .later }
def TypesKnownCardSaid : Prop := Claim7.holds Tryd.pinned (.plain (OpenSpec.ofChange typesKnownSpec)) typesKnownCard

/-- THE TIED CARD OF 'twinshaftlaw24.TypesLie'. -/
def typesLieCard : Claim7 := { stood := { row := typesLieRow, standIns := [], harness := (true, "99b57130467a01112a483ee59949b5a07c7b14296682fe5a07060ecccbc65aa6"), looks := false }, kinds := [], alts := [], laidByText := true, laidKinds := [.data, .data, .data], laidTests := true, laidLooks := .later }
def TypesLieCardSaid : Prop := Claim7.holds Tryd.pinned (.plain (OpenSpec.ofChange typesLieSpec)) typesLieCard

/-- THE TIED CARD OF 'twinshaftlaw24.TypesParts'. -/
def typesPartsCard : Claim7 := { stood := { row := typesPartsRow, standIns := [], harness := (true, "99b57130467a01112a483ee59949b5a07c7b14296682fe5a07060ecccbc65aa6"), looks := false }, kinds := [], alts := [], laidByText := true, laidKinds := [.data, .data, .data], laidTests := true, laidLooks := .later }
def TypesPartsCardSaid : Prop := Claim7.holds Tryd.pinned (.plain (OpenSpec.ofChange typesPartsSpec)) typesPartsCard

/-- THE SECOND FORM's CARD OF 'twinshaftlaw24.TypesMeasure'. -/
def typesMeasureUptoCard : Claim7 := { stood := { row := typesMeasureUptoRow, standIns := [], harness := (true, "99b57130467a01112a483ee59949b5a07c7b14296682fe5a07060ecccbc65aa6"), looks := false }, kinds := [], alts := [], laidByText := true, laidKinds := [.data, .data, .data], laidTests := true, laidLooks := .later }
def TypesMeasureUptoCardSaid : Prop := Claim7.holds Tryd.pinned (.plain (OpenSpec.upto typesMeasureSpec)) typesMeasureUptoCard

/-- THE SECOND FORM's CARD OF 'twinshaftlaw24.TypesKnown'. -/
def typesKnownUptoCard : Claim7 := { stood := { row := typesKnownUptoRow, standIns := [], harness := (true, "99b57130467a01112a483ee59949b5a07c7b14296682fe5a07060ecccbc65aa6"), looks := false }, kinds := [], alts := [], laidByText := true, laidKinds := [.data, .data, .data], laidTests := true, laidLooks := .later }
def TypesKnownUptoCardSaid : Prop := Claim7.holds Tryd.pinned (.plain (OpenSpec.upto typesKnownSpec)) typesKnownUptoCard

/-- THE SECOND FORM's CARD OF 'twinshaftlaw24.TypesLie'. -/
def typesLieUptoCard : Claim7 := { stood := { row := typesLieUptoRow, standIns := [], harness := (true, "99b57130467a01112a483ee59949b5a07c7b14296682fe5a07060ecccbc65aa6"), looks := false }, kinds := [], alts := [], laidByText := true, laidKinds := [.data, .data, .data], laidTests := true, laidLooks := .later }
def TypesLieUptoCardSaid : Prop := Claim7.holds Tryd.pinned (.plain (OpenSpec.upto typesLieSpec)) typesLieUptoCard

/-- THE SECOND FORM's CARD OF 'twinshaftlaw24.TypesParts'. -/
def typesPartsUptoCard : Claim7 := { stood := { row := typesPartsUptoRow, standIns := [], harness := (true, "99b57130467a01112a483ee59949b5a07c7b14296682fe5a07060ecccbc65aa6"), looks := false }, kinds := [], alts := [], laidByText := true, laidKinds := [.data, .data, .data], laidTests := true, laidLooks := .later }
def TypesPartsUptoCardSaid : Prop := Claim7.holds Tryd.pinned (.plain (OpenSpec.upto typesPartsSpec)) typesPartsUptoCard
end Rows
end Go.Proofs.YtjpkmaacalelcaaDoor
