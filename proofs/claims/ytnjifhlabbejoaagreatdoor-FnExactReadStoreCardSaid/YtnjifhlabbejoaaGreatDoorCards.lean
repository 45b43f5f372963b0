/-
  DERIVED. GIVEN WITH THE SEED: THE CARDS: each row of YtnjifhlabbejoaaGreatDoorRows.lean that lists a variable, with what it lists TIED to the program's text (the seventh form; the later family's looks); each row that meets fmt, with fmt's text TOLD by the authors' own Lean function (tested against real Go, not proved from fmt's source: count such statements apart). THE CARD IS WHAT COUNTS. Prove the row's statement (the work); the ties are given (YtnjifhlabbejoaaGreatDoorTie.lean); close each card by the builder's one call (the guide's Derived/Test/ToyasCard.lean, 'card_holds'). Laid BY PROGRAM, IN A SANDBOX (cutbox-door.mjs). By AI agents, Wed Nov 11 2026. No macro, syntax, notation, axiom, sorry.
-/
import Derived.Test.YtnjifhlabbejoaaGreatDoorRows
import GoSem.ClaimSeven
namespace Go.Proofs.YtnjifhlabbejoaaGreatDoor
namespace Rows

/-- THE TIED CARD OF 'laws.FnExactReadStore'. -/
def fnExactReadStoreCard : Claim7 := { stood := { row := fnExactReadStoreRow, standIns := [], harness := (true, "bbd4283d64b25c4abcadaa37fca288679929644914fa13ce012bb39ae2241f01"), looks := true }, kinds := [], alts := [], laidByText := true, laidKinds := [.data, .data, .data, .data, .sentinel, .sentinel, .pinned], laidTests := true, laidLooks := .later }
def FnExactReadStoreCardSaid : Prop := Claim7.holds Tryz.pinned (.plain (OpenSpec.ofChange fnExactReadStoreSpec)) fnExactReadStoreCard

/-- THE SECOND FORM's CARD OF 'laws.FnExactReadStore'. -/
def fnExactReadStoreUptoCard : Claim7 := { stood := { row := fnExactReadStoreUptoRow, standIns := [], harness := (true, "bbd4283d64b25c4abcadaa37fca288679929644914fa13ce012bb39ae2241f01"), looks := true }, kinds := [], alts := [], laidByText := true, laidKinds := [.data, .data, .data, .data, .sentinel, .sentinel, .pinned], laidTests := true, laidLooks := .later }
def FnExactReadStoreUptoCardSaid : Prop := Claim7.holds Tryz.pinned (.plain (OpenSpec.upto fnExactReadStoreSpec)) fnExactReadStoreUptoCard
end Rows
end Go.Proofs.YtnjifhlabbejoaaGreatDoor
