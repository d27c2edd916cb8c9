/-
  DERIVED. GIVEN WITH THE SEED: THE CARDS: each row of YtfiifnlnkedahaaDoorRows.lean that lists a variable, with what it lists TIED to the program's text (the seventh form; the later family's looks); each row that meets fmt, with fmt's text TOLD by the authors' own Lean function (tested against real Go, not proved from fmt's source: count such statements apart). THE CARD IS WHAT COUNTS. Prove the row's statement (the work); the ties are given (YtfiifnlnkedahaaDoorTie.lean); close each card by the builder's one call (the guide's Derived/Test/ToyasCard.lean, 'card_holds'). Laid BY PROGRAM, IN A SANDBOX (cutbox-door.mjs). By AI agents, Wed Nov 11 2026. No macro, syntax, notation, axiom, sorry.
-/
import Derived.Test.YtfiifnlnkedahaaDoorRows
import GoSem.ClaimSeven
namespace Go.Proofs.YtfiifnlnkedahaaDoor
namespace Rows

/-- THE TIED CARD OF 'laws.FnExactNumberText'. -/
def fnExactNumberTextCard : Claim7 := { stood := { row := fnExactNumberTextRow, standIns := [], harness := (true, "3ddcbc6a90d5bb611202715297ab8f2307c173e61f76468aa0765b63b0391659"), looks := true }, kinds := [], alts := [], laidByText := true, laidKinds := [.data, .data, .data], laidTests := true, laidLooks := .later }
def FnExactNumberTextCardSaid : Prop := Claim7.holds Tryd.pinned (.plain (OpenSpec.ofChange fnExactNumberTextSpec)) fnExactNumberTextCard

/-- THE TIED CARD OF 'laws.FnExactReadNumber'. -/
def fnExactReadNumberCard : Claim7 := { stood := { row := fnExactReadNumberRow, standIns := [], harness := (true, "3ddcbc6a90d5bb611202715297ab8f2307c173e61f76468aa0765b63b0391659"), looks := true }, kinds := [], alts := [], laidByText := true, laidKinds := [.data, .data, .data, .sentinel, .sentinel], laidTests := true, laidLooks := .later }
def FnExactReadNumberCardSaid : Prop := Claim7.holds Tryd.pinned (.plain (OpenSpec.ofChange fnExactReadNumberSpec)) fnExactReadNumberCard

/-- THE TIED CARD OF 'laws.FnExactSunText'. -/
def fnExactSunTextCard : Claim7 := { stood := { row := fnExactSunTextRow, standIns := [], harness := (true, "3ddcbc6a90d5bb611202715297ab8f2307c173e61f76468aa0765b63b0391659"), looks := true }, kinds := [], alts := [], laidByText := true, laidKinds := [.data, .data, .data], laidTests := true, laidLooks := .later }
def FnExactSunTextCardSaid : Prop := Claim7.holds Tryd.pinned (.plain (OpenSpec.ofChange fnExactSunTextSpec)) fnExactSunTextCard

/-- THE TIED CARD OF 'laws.FnExactBlindText'. -/
def fnExactBlindTextCard : Claim7 := { stood := { row := fnExactBlindTextRow, standIns := [], harness := (true, "3ddcbc6a90d5bb611202715297ab8f2307c173e61f76468aa0765b63b0391659"), looks := true }, kinds := [], alts := [], laidByText := true, laidKinds := [.data, .data, .data], laidTests := true, laidLooks := .later }
def FnExactBlindTextCardSaid : Prop := Claim7.holds Tryd.pinned (.plain (OpenSpec.ofChange fnExactBlindTextSpec)) fnExactBlindTextCard

/-- THE TIED CARD OF 'laws.FnExactReadSun'. -/
def fnExactReadSunCard : Claim7 := { stood := { row := fnExactReadSunRow, standIns := [], harness := (true, "3ddcbc6a90d5bb611202715297ab8f2307c173e61f76468aa0765b63b0391659"), looks := true }, kinds := [], alts := [], laidByText := true, laidKinds := [.data, .data, .data, .data, .sentinel, .sentinel, .pinned], laidTests := true, laidLooks := .later }
def FnExactReadSunCardSaid : Prop := Claim7.holds Tryd.pinned (.plain (OpenSpec.ofChange fnExactReadSunSpec)) fnExactReadSunCard

/-- THE TIED CARD OF 'laws.FnExactReadBlind'. -/
def fnExactReadBlindCard : Claim7 := { stood := { row := fnExactReadBlindRow, standIns := [], harness := (true, "3ddcbc6a90d5bb611202715297ab8f2307c173e61f76468aa0765b63b0391659"), looks := true }, kinds := [], alts := [], laidByText := true, laidKinds := [.data, .data, .data, .data, .sentinel, .sentinel, .pinned], laidTests := true, laidLooks := .later }
def FnExactReadBlindCardSaid : Prop := Claim7.holds Tryd.pinned (.plain (OpenSpec.ofChange fnExactReadBlindSpec)) fnExactReadBlindCard

/-- THE TIED CARD OF 'laws.FnSines'. -/
def fnSinesCard : Claim7 := { stood := { row := fnSinesRow, standIns := [], harness := (true, "3ddcbc6a90d5bb611202715297ab8f2307c173e61f76468aa0765b63b0391659"), looks := true }, kinds := [], alts := [], laidByText := true, laidKinds := [.data, .data, .data, .sentinel, .sentinel], laidTests := true, laidLooks := .later }
def FnSinesCardSaid : Prop := Claim7.holds Tryd.pinned (.plain (OpenSpec.ofChange fnSinesSpec)) fnSinesCard

/-- THE SECOND FORM's CARD OF 'laws.FnExactNumberText'. -/
def fnExactNumberTextUptoCard : Claim7 := { stood := { row := fnExactNumberTextUptoRow, standIns := [], harness := (true, "3ddcbc6a90d5bb611202715297ab8f2307c173e61f76468aa0765b63b0391659"), looks := true }, kinds := [], alts := [], laidByText := true, laidKinds := [.data, .data, .data], laidTests := true, laidLooks := .later }
def FnExactNumberTextUptoCardSaid : Prop := Claim7.holds Tryd.pinned (.plain (OpenSpec.upto fnExactNumberTextSpec)) fnExactNumberTextUptoCard

/-- THE SECOND FORM's CARD OF 'laws.FnExactReadNumber'. -/
def fnExactReadNumberUptoCard : Claim7 := { stood := { row := fnExactReadNumberUptoRow, standIns := [], harness := (true, "3ddcbc6a90d5bb611202715297ab8f2307c173e61f76468aa0765b63b0391659"), looks := true }, kinds := [], alts := [], laidByText := true, laidKinds := [.data, .data, .data, .sentinel, .sentinel], laidTests := true, laidLooks := .later }
def FnExactReadNumberUptoCardSaid : Prop := Claim7.holds Tryd.pinned (.plain (OpenSpec.upto fnExactReadNumberSpec)) fnExactReadNumberUptoCard

/-- THE SECOND FORM's CARD OF 'laws.FnExactSunText'. -/
def fnExactSunTextUptoCard : Claim7 := { stood := { row := fnExactSunTextUptoRow, standIns := [], harness := (true, "3ddcbc6a90d5bb611202715297ab8f2307c173e61f76468aa0765b63b0391659"), looks := true }, kinds := [], alts := [], laidByText := true, laidKinds := [.data, .data, .data], laidTests := true, laidLooks := .later }
def FnExactSunTextUptoCardSaid : Prop := Claim7.holds Tryd.pinned (.plain (OpenSpec.upto fnExactSunTextSpec)) fnExactSunTextUptoCard

/-- THE SECOND FORM's CARD OF 'laws.FnExactBlindText'. -/
def fnExactBlindTextUptoCard : Claim7 := { stood := { row := fnExactBlindTextUptoRow, standIns := [], harness := (true, "3ddcbc6a90d5bb611202715297ab8f2307c173e61f76468aa0765b63b0391659"), looks := true }, kinds := [], alts := [], laidByText := true, laidKinds := [.data, .data, .data], laidTests := true, laidLooks := .later }
def FnExactBlindTextUptoCardSaid : Prop := Claim7.holds Tryd.pinned (.plain (OpenSpec.upto fnExactBlindTextSpec)) fnExactBlindTextUptoCard

/-- THE SECOND FORM's CARD OF 'laws.FnExactReadSun'. -/
def fnExactReadSunUptoCard : Claim7 := { stood := { row := fnExactReadSunUptoRow, standIns := [], harness := (true, "3ddcbc6a90d5bb611202715297ab8f2307c173e61f76468aa0765b63b0391659"), looks := true }, kinds := [], alts := [], laidByText := true, laidKinds := [.data, .data, .data, .data, .sentinel, .sentinel, .pinned], laidTests := true, laidLooks := .later }
def FnExactReadSunUptoCardSaid : Prop := Claim7.holds Tryd.pinned (.plain (OpenSpec.upto fnExactReadSunSpec)) fnExactReadSunUptoCard

/-- THE SECOND FORM's CARD OF 'laws.FnExactReadBlind'. -/
def fnExactReadBlindUptoCard : Claim7 := { stood := { row := fnExactReadBlindUptoRow, standIns := [], harness := (true, "3ddcbc6a90d5bb611202715297ab8f2307c173e61f76468aa0765b63b0391659"), looks := true }, kinds := [], alts := [], laidByText := true, laidKinds := [.data, .data, .data, .data, .sentinel, .sentinel, .pinned], laidTests := true, laidLooks := .later }
def FnExactReadBlindUptoCardSaid : Prop := Claim7.holds Tryd.pinned (.plain (OpenSpec.upto fnExactReadBlindSpec)) fnExactReadBlindUptoCard

/-- THE SECOND FORM's CARD OF 'laws.FnSines'. -/
def fnSinesUptoCard : Claim7 := { stood := { row := fnSinesUptoRow, standIns := [], harness := (true, "3ddcbc6a90d5bb611202715297ab8f2307c173e61f76468aa0765b63b0391659"), looks := true }, kinds := [], alts := [], laidByText := true, laidKinds := [.data, .data, .data, .sentinel, .sentinel], laidTests := true, laidLooks := .later }
def FnSinesUptoCardSaid : Prop := Claim7.holds Tryd.pinned (.plain (OpenSpec.upto fnSinesSpec)) fnSinesUptoCard
end Rows
end Go.Proofs.YtfiifnlnkedahaaDoor
