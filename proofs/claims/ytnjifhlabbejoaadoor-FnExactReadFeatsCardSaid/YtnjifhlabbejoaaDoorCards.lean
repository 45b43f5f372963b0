/-
  DERIVED. GIVEN WITH THE SEED: THE CARDS: each row of YtnjifhlabbejoaaDoorRows.lean that lists a variable, with what it lists TIED to the program's text (the seventh form; the later family's looks); each row that meets fmt, with fmt's text TOLD by the authors' own Lean function (tested against real Go, not proved from fmt's source: count such statements apart). THE CARD IS WHAT COUNTS. Prove the row's statement (the work); the ties are given (YtnjifhlabbejoaaDoorTie.lean); close each card by the builder's one call (the guide's Derived/Test/ToyasCard.lean, 'card_holds'). Laid BY PROGRAM, IN A SANDBOX (cutbox-door.mjs). By AI agents, Wed Nov 11 2026. No macro, syntax, notation, axiom, sorry.
-/
import Derived.Test.YtnjifhlabbejoaaDoorRows
import GoSem.ClaimSeven
namespace Go.Proofs.YtnjifhlabbejoaaDoor
namespace Rows

/-- THE TIED CARD OF 'laws.FnExactReadFeats'. -/
def fnExactReadFeatsCard : Claim7 := { stood := { row := fnExactReadFeatsRow, standIns := [], harness := (true, "71e0c3e69f39d18281860b296be04c8bbae8ea44f794866ae4ec102bc20808ae"), looks := true }, kinds := [], alts := [], laidByText := true, laidKinds := [.data, .data, .data, .data, .sentinel, .sentinel, .pinned], laidTests := true, laidLooks := .later }
def FnExactReadFeatsCardSaid : Prop := Claim7.holds Tryd.pinned (.plain (OpenSpec.ofChange fnExactReadFeatsSpec)) fnExactReadFeatsCard

/-- THE TIED CARD OF 'laws.FnExactFeatsText'. -/
def fnExactFeatsTextCard : Claim7 := { stood := { row := fnExactFeatsTextRow, standIns := [], harness := (true, "71e0c3e69f39d18281860b296be04c8bbae8ea44f794866ae4ec102bc20808ae"), looks := true }, kinds := [], alts := [], laidByText := true, laidKinds := [.data, .data, .data], laidTests := true, laidLooks := .later }
def FnExactFeatsTextCardSaid : Prop := Claim7.holds Tryd.pinned (.plain (OpenSpec.ofChange fnExactFeatsTextSpec)) fnExactFeatsTextCard

/-- THE TIED CARD OF 'laws.FnExactStoreText'. -/
def fnExactStoreTextCard : Claim7 := { stood := { row := fnExactStoreTextRow, standIns := [], harness := (true, "71e0c3e69f39d18281860b296be04c8bbae8ea44f794866ae4ec102bc20808ae"), looks := true }, kinds := [], alts := [], laidByText := true, laidKinds := [.data, .data, .data], laidTests := true, laidLooks := .later }
def FnExactStoreTextCardSaid : Prop := Claim7.holds Tryd.pinned (.plain (OpenSpec.ofChange fnExactStoreTextSpec)) fnExactStoreTextCard

/-- THE SECOND FORM's CARD OF 'laws.FnExactReadFeats'. -/
def fnExactReadFeatsUptoCard : Claim7 := { stood := { row := fnExactReadFeatsUptoRow, standIns := [], harness := (true, "71e0c3e69f39d18281860b296be04c8bbae8ea44f794866ae4ec102bc20808ae"), looks := true }, kinds := [], alts := [], laidByText := true, laidKinds := [.data, .data, .data, .data, .sentinel, .sentinel, .pinned], laidTests := true, laidLooks := .later }
def FnExactReadFeatsUptoCardSaid : Prop := Claim7.holds Tryd.pinned (.plain (OpenSpec.upto fnExactReadFeatsSpec)) fnExactReadFeatsUptoCard

/-- THE SECOND FORM's CARD OF 'laws.FnExactFeatsText'. -/
def fnExactFeatsTextUptoCard : Claim7 := { stood := { row := fnExactFeatsTextUptoRow, standIns := [], harness := (true, "71e0c3e69f39d18281860b296be04c8bbae8ea44f794866ae4ec102bc20808ae"), looks := true }, kinds := [], alts := [], laidByText := true, laidKinds := [.data, .data, .data], laidTests := true, laidLooks := .later }
def FnExactFeatsTextUptoCardSaid : Prop := Claim7.holds Tryd.pinned (.plain (OpenSpec.upto fnExactFeatsTextSpec)) fnExactFeatsTextUptoCard

/-- THE SECOND FORM's CARD OF 'laws.FnExactStoreText'. -/
def fnExactStoreTextUptoCard : Claim7 := { stood := { row := fnExactStoreTextUptoRow, standIns := [], harness := (true, "71e0c3e69f39d18281860b296be04c8bbae8ea44f794866ae4ec102bc20808ae"), looks := true }, kinds := [], alts := [], laidByText := true, laidKinds := [.data, .data, .data], laidTests := true, laidLooks := .later }
def FnExactStoreTextUptoCardSaid : Prop := Claim7.holds Tryd.pinned (.plain (OpenSpec.upto fnExactStoreTextSpec)) fnExactStoreTextUptoCard
end Rows
end Go.Proofs.YtnjifhlabbejoaaDoor
