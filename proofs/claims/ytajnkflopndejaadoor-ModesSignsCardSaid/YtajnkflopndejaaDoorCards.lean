/-
  DERIVED. GIVEN WITH THE SEED: THE CARDS: each row of YtajnkflopndejaaDoorRows.lean that lists a variable, with what it lists TIED to the program's text (the seventh form; the later family's looks); each row that meets fmt, with fmt's text TOLD by the authors' own Lean function (tested against real Go, not proved from fmt's source: count such statements apart). THE CARD IS WHAT COUNTS. Prove the row's statement (the work); the ties are given (YtajnkflopndejaaDoorTie.lean); close each card by the builder's one call (the guide's Derived/Test/ToyasCard.lean, 'card_holds'). Laid BY PROGRAM, IN A SANDBOX (cutbox-door.mjs). By AI agents, Wed Nov 11 2026. No macro, syntax, notation, axiom, sorry.
-/
import Derived.Test.YtajnkflopndejaaDoorRows
import GoSem.ClaimSeven
namespace Go.Proofs.YtajnkflopndejaaDoor
namespace Rows

/-- THE TIED CARD OF 'toolchestlaw10.ModesBack'. -/
def modesBackCard : Claim7 := { stood := { row := modesBackRow, standIns := [], harness := (true, "97ef2e830bfd10f36a2aed4d6e80712675e1aba61b3eee956f6d09b51027fb59"), looks := true }, kinds := [], alts := [], laidByText := true, laidKinds := [.data, .data, .data, .data, .sentinel, .sentinel, .pinned], laidTests := true, laidLooks := .later }
def ModesBackCardSaid : Prop := Claim7.holds Tryd.pinned (.plain (OpenSpec.ofChange modesBackSpec)) modesBackCard

/-- THE TIED CARD OF 'toolchestlaw10.ModesSigns'. -/
def modesSignsCard : Claim7 := { stood := { row := modesSignsRow, standIns := [], harness := (true, "97ef2e830bfd10f36a2aed4d6e80712675e1aba61b3eee956f6d09b51027fb59"), looks := true }, kinds := [], alts := [], laidByText := true, laidKinds := [.data, .data, .data, .data, .sentinel, .sentinel, .pinned], laidTests := true, laidLooks := .later }
def ModesSignsCardSaid : Prop := Claim7.holds Tryd.pinned (.plain (OpenSpec.ofChange modesSignsSpec)) modesSignsCard

/-- THE TIED CARD OF 'toolchestlaw10.ModesAgain'. -/
def modesAgainCard : Claim7 := { stood := { row := modesAgainRow, standIns := [], harness := (true, "97ef2e830bfd10f36a2aed4d6e80712675e1aba61b3eee956f6d09b51027fb59"), looks := true }, kinds := [], alts := [], laidByText := true, laidKinds := [.data, .data, .data, .data, .sentinel, .sentinel, .pinned], laidTests := true, laidLooks := .later }
def ModesAgainCardSaid : Prop := Claim7.holds Tryd.pinned (.plain (OpenSpec.ofChange modesAgainSpec)) modesAgainCard

/-- THE TIED CARD OF 'toolchestlaw10.ModesOne'. -/
def modesOneCard : Claim7 := { stood := { row := modesOneRow, standIns := [], harness := (true, "97ef2e830bfd10f36a2aed4d6e80712675e1aba61b3eee956f6d09b51027fb59"), looks := true }, kinds := [], alts := [], laidByText := true, laidKinds := [.data, .data, .data, .data, .sentinel, .sentinel, .pinned], laidTests := true, laidLooks := .later }
def ModesOneCardSaid : Prop := Claim7.holds Tryd.pinned (.plain (OpenSpec.ofChange modesOneSpec)) modesOneCard

/-- THE TIED CARD OF 'toolchestlaw10.ModesMask'. -/
def modesMaskCard : Claim7 := { stood := { row := modesMaskRow, standIns := [], harness := (true, "97ef2e830bfd10f36a2aed4d6e80712675e1aba61b3eee956f6d09b51027fb59"), looks := true }, kinds := [], alts := [], laidByText := true, laidKinds := [.data, .data, .data, .data, .sentinel, .sentinel, .pinned], laidTests := true, laidLooks := .later }
def ModesMaskCardSaid : Prop := Claim7.holds Tryd.pinned (.plain (OpenSpec.ofChange modesMaskSpec)) modesMaskCard

/-- THE TIED CARD OF 'toolchestlaw10.ModesJoins'. -/
def modesJoinsCard : Claim7 := { stood := { row := modesJoinsRow, standIns := [], harness := (true, "97ef2e830bfd10f36a2aed4d6e80712675e1aba61b3eee956f6d09b51027fb59"), looks := true }, kinds := [], alts := [], laidByText := true, laidKinds := [.data, .data, .data, .data, .sentinel, .sentinel, .pinned], laidTests := true, laidLooks := .later }
def ModesJoinsCardSaid : Prop := Claim7.holds Tryd.pinned (.plain (OpenSpec.ofChange modesJoinsSpec)) modesJoinsCard

/-- THE SECOND FORM's CARD OF 'toolchestlaw10.ModesBack'. -/
def modesBackUptoCard : Claim7 := { stood := { row := modesBackUptoRow, standIns := [], harness := (true, "97ef2e830bfd10f36a2aed4d6e80712675e1aba61b3eee956f6d09b51027fb59"), looks := true }, kinds := [], alts := [], laidByText := true, laidKinds := [.data, .data, .data, .data, .sentinel, .sentinel, .pinned], laidTests := true, laidLooks := .later }
def ModesBackUptoCardSaid : Prop := Claim7.holds Tryd.pinned (.plain (OpenSpec.upto modesBackSpec)) modesBackUptoCard

/-- THE SECOND FORM's CARD OF 'toolchestlaw10.ModesSigns'. -/
def modesSignsUptoCard : Claim7 := { stood := { row := modesSignsUptoRow, standIns := [], harness := (true, "97ef2e830bfd10f36a2aed4d6e80712675e1aba61b3eee956f6d09b51027fb59"), looks := true }, kinds := [], alts := [], laidByText := true, laidKinds := [.data, .data, .data, .data, .sentinel, .sentinel, .pinned], laidTests := true, laidLooks := .later }
def ModesSignsUptoCardSaid : Prop := Claim7.holds Tryd.pinned (.plain (OpenSpec.upto modesSignsSpec)) modesSignsUptoCard

/-- THE SECOND FORM's CARD OF 'toolchestlaw10.ModesAgain'. -/
def modesAgainUptoCard : Claim7 := { stood := { row := modesAgainUptoRow, standIns := [], harness := (true, "97ef2e830bfd10f36a2aed4d6e80712675e1aba61b3eee956f6d09b51027fb59"), looks := true }, kinds := [], alts := [], laidByText := true, laidKinds := [.data, .data, .data, .data, .sentinel, .sentinel, .pinned], laidTests := true, laidLooks := .later }
def ModesAgainUptoCardSaid : Prop := Claim7.holds Tryd.pinned (.plain (OpenSpec.upto modesAgainSpec)) modesAgainUptoCard

/-- THE SECOND FORM's CARD OF 'toolchestlaw10.ModesOne'. -/
def modesOneUptoCard : Claim7 := { stood := { row := modesOneUptoRow, standIns := [], harness := (true, "97ef2e830bfd10f36a2aed4d6e80712675e1aba61b3eee956f6d09b51027fb59"), looks := true }, kinds := [], alts := [], laidByText := true, laidKinds := [.data, .data, .data, .data, .sentinel, .sentinel, .pinned], laidTests := true, laidLooks := .later }
def ModesOneUptoCardSaid : Prop := Claim7.holds Tryd.pinned (.plain (OpenSpec.upto modesOneSpec)) modesOneUptoCard

/-- THE SECOND FORM's CARD OF 'toolchestlaw10.ModesMask'. -/
def modesMaskUptoCard : Claim7 := { stood := { row := modesMaskUptoRow, standIns := [], harness := (true, "97ef2e830bfd10f36a2aed4d6e80712675e1aba61b3eee956f6d09b51027fb59"), looks := true }, kinds := [], alts := [], laidByText := true, laidKinds := [.data, .data, .data, .data, .sentinel, .sentinel, .pinned], laidTests := true, laidLooks := .later }
def ModesMaskUptoCardSaid : Prop := Claim7.holds Tryd.pinned (.plain (OpenSpec.upto modesMaskSpec)) modesMaskUptoCard

/-- THE SECOND FORM's CARD OF 'toolchestlaw10.ModesJoins'. -/
def modesJoinsUptoCard : Claim7 := { stood := { row := modesJoinsUptoRow, standIns := [], harness := (true, "97ef2e830bfd10f36a2aed4d6e80712675e1aba61b3eee956f6d09b51027fb59"), looks := true }, kinds := [], alts := [], laidByText := true, laidKinds := [.data, .data, .data, .data, .sentinel, .sentinel, .pinned], laidTests := true, laidLooks := .later }
def ModesJoinsUptoCardSaid : Prop := Claim7.holds Tryd.pinned (.plain (OpenSpec.upto modesJoinsSpec)) modesJoinsUptoCard
end Rows
end Go.Proofs.YtajnkflopndejaaDoor
