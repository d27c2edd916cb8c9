/-
  DERIVED. GIVEN WITH THE SEED: THE CARDS: each row of YtddkiemipedgcaaGreatDoorRows.lean that lists a variable, with what it lists TIED to the program's text (the seventh form; the later family's looks); each row that meets fmt, with fmt's text TOLD by the authors' own Lean function (tested against real Go, not proved from fmt's source: count such statements apart). THE CARD IS WHAT COUNTS. Prove the row's statement (the work); the ties are given (YtddkiemipedgcaaGreatDoorTie.lean); close each card by the builder's one call (the guide's Derived/Test/ToyasCard.lean, 'card_holds'). Laid BY PROGRAM, IN A SANDBOX (cutbox-door.mjs). By AI agents, Wed Nov 11 2026. No macro, syntax, notation, axiom, sorry.
-/
import Derived.Test.YtddkiemipedgcaaGreatDoorRows
import GoSem.ClaimSeven
namespace Go.Proofs.YtddkiemipedgcaaGreatDoor
namespace Rows

/-- THE TIED CARD OF 'laws.FnSuns'. -/
def fnSunsCard : Claim7 := { stood := { row := fnSunsRow, standIns := [], harness := (true, "c24d4c2ffe5179f8771ce7123cd2a130918d0ab247cfa2d6e2aedfdc29cd6ce9"), looks := true }, kinds := [], alts := [], laidByText := true, laidKinds := [.data, .data, .data, .data, .sentinel, .sentinel, .pinned], laidTests := true, laidLooks := .later }
def FnSunsCardSaid : Prop := Claim7.holds Tryz.pinned (.plain (OpenSpec.ofChange fnSunsSpec)) fnSunsCard

/-- THE TIED CARD OF 'laws.FnSlats'. -/
def fnSlatsCard : Claim7 := { stood := { row := fnSlatsRow, standIns := [], harness := (true, "c24d4c2ffe5179f8771ce7123cd2a130918d0ab247cfa2d6e2aedfdc29cd6ce9"), looks := true }, kinds := [], alts := [], laidByText := true, laidKinds := [.data, .data, .data, .data, .sentinel, .sentinel, .pinned], laidTests := true, laidLooks := .later }
def FnSlatsCardSaid : Prop := Claim7.holds Tryz.pinned (.plain (OpenSpec.ofChange fnSlatsSpec)) fnSlatsCard

/-- THE SECOND FORM's CARD OF 'laws.FnSuns'. -/
def fnSunsUptoCard : Claim7 := { stood := { row := fnSunsUptoRow, standIns := [], harness := (true, "c24d4c2ffe5179f8771ce7123cd2a130918d0ab247cfa2d6e2aedfdc29cd6ce9"), looks := true }, kinds := [], alts := [], laidByText := true, laidKinds := [.data, .data, .data, .data, .sentinel, .sentinel, .pinned], laidTests := true, laidLooks := .later }
def FnSunsUptoCardSaid : Prop := Claim7.holds Tryz.pinned (.plain (OpenSpec.upto fnSunsSpec)) fnSunsUptoCard

/-- THE SECOND FORM's CARD OF 'laws.FnSlats'. -/
def fnSlatsUptoCard : Claim7 := { stood := { row := fnSlatsUptoRow, standIns := [], harness := (true, "c24d4c2ffe5179f8771ce7123cd2a130918d0ab247cfa2d6e2aedfdc29cd6ce9"), looks := true }, kinds := [], alts := [], laidByText := true, laidKinds := [.data, .data, .data, .data, .sentinel, .sentinel, .pinned], laidTests := true, laidLooks := .later }
def FnSlatsUptoCardSaid : Prop := Claim7.holds Tryz.pinned (.plain (OpenSpec.upto fnSlatsSpec)) fnSlatsUptoCard
end Rows
end Go.Proofs.YtddkiemipedgcaaGreatDoor
