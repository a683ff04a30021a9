/-
  DERIVED. GIVEN WITH THE SEED: THE CARDS: each row of YtndmngijfleilaaDoorRows.lean that lists a variable, with what it lists TIED to the program's text (the seventh form; the later family's looks); each row that meets fmt, with fmt's text TOLD by the authors' own Lean function (tested against real Go, not proved from fmt's source: count such statements apart). THE CARD IS WHAT COUNTS. Prove the row's statement (the work); the ties are given (YtndmngijfleilaaDoorTie.lean); close each card by the builder's one call (the guide's Derived/Test/ToyasCard.lean, 'card_holds'). Laid BY PROGRAM, IN A SANDBOX (cutbox-door.mjs). By AI agents, Wed Nov 11 2026. No macro, syntax, notation, axiom, sorry.
-/
import Derived.Test.YtndmngijfleilaaDoorRows
import GoSem.ClaimSeven
namespace Go.Proofs.YtndmngijfleilaaDoor
namespace Rows

/-- THE TIED CARD OF 'toolchestlaw04.SetsSwapped'. -/
def setsSwappedCard : Claim7 := { stood := { row := setsSwappedRow, standIns := [], harness := (true, "87f121cb76d0159311cd9cc3884679b43886241b3ed95b8e937432a853616794"), looks := true }, kinds := [], alts := [], laidByText := true, laidKinds := [.data, .data, .data, .data, .sentinel, .sentinel, .pinned], laidTests := true, laidLooks := .later }
def SetsSwappedCardSaid : Prop := Claim7.holds Tryd.pinned (.plain (OpenSpec.ofChange setsSwappedSpec)) setsSwappedCard

/-- THE TIED CARD OF 'toolchestlaw04.SetsBack'. -/
def setsBackCard : Claim7 := { stood := { row := setsBackRow, standIns := [], harness := (true, "87f121cb76d0159311cd9cc3884679b43886241b3ed95b8e937432a853616794"), looks := true }, kinds := [], alts := [], laidByText := true, laidKinds := [.data, .data, .data, .data, .sentinel, .sentinel, .pinned], laidTests := true, laidLooks := .later }
def SetsBackCardSaid : Prop := Claim7.holds Tryd.pinned (.plain (OpenSpec.ofChange setsBackSpec)) setsBackCard

/-- THE TIED CARD OF 'toolchestlaw04.SetsDropped'. -/
def setsDroppedCard : Claim7 := { stood := { row := setsDroppedRow, standIns := [], harness := (true, "87f121cb76d0159311cd9cc3884679b43886241b3ed95b8e937432a853616794"), looks := true }, kinds := [], alts := [], laidByText := true, laidKinds := [.data, .data, .data, .data, .sentinel, .sentinel, .pinned], laidTests := true, laidLooks := .later }
def SetsDroppedCardSaid : Prop := Claim7.holds Tryd.pinned (.plain (OpenSpec.ofChange setsDroppedSpec)) setsDroppedCard

/-- THE TIED CARD OF 'toolchestlaw04.SetsSingles'. -/
def setsSinglesCard : Claim7 := { stood := { row := setsSinglesRow, standIns := [], harness := (true, "87f121cb76d0159311cd9cc3884679b43886241b3ed95b8e937432a853616794"), looks := true }, kinds := [], alts := [], laidByText := true, laidKinds := [.data, .data, .data, .data, .sentinel, .sentinel, .pinned], laidTests := true, laidLooks := .later }
def SetsSinglesCardSaid : Prop := Claim7.holds Tryd.pinned (.plain (OpenSpec.ofChange setsSinglesSpec)) setsSinglesCard

/-- THE TIED CARD OF 'toolchestlaw04.SetsClasses'. -/
def setsClassesCard : Claim7 := { stood := { row := setsClassesRow, standIns := [], harness := (true, "87f121cb76d0159311cd9cc3884679b43886241b3ed95b8e937432a853616794"), looks := true }, kinds := [], alts := [], laidByText := true, laidKinds := [.data, .data, .data, .data, .sentinel, .sentinel, .pinned], laidTests := true, laidLooks := .later }
def SetsClassesCardSaid : Prop := Claim7.holds Tryd.pinned (.plain (OpenSpec.ofChange setsClassesSpec)) setsClassesCard

/-- THE TIED CARD OF 'toolchestlaw04.SetsRest'. -/
def setsRestCard : Claim7 := { stood := { row := setsRestRow, standIns := [], harness := (true, "87f121cb76d0159311cd9cc3884679b43886241b3ed95b8e937432a853616794"), looks := true }, kinds := [], alts := [], laidByText := true, laidKinds := [.data, .data, .data, .data, .sentinel, .sentinel, .pinned], laidTests := true, laidLooks := .later }
def SetsRestCardSaid : Prop := Claim7.holds Tryd.pinned (.plain (OpenSpec.ofChange setsRestSpec)) setsRestCard

/-- THE SECOND FORM's CARD OF 'toolchestlaw04.SetsSwapped'. -/
def setsSwappedUptoCard : Claim7 := { stood := { row := setsSwappedUptoRow, standIns := [], harness := (true, "87f121cb76d0159311cd9cc3884679b43886241b3ed95b8e937432a853616794"), looks := true }, kinds := [], alts := [], laidByText := true, laidKinds := [.data, .data, .data, .data, .sentinel, .sentinel, .pinned], laidTests := true, laidLooks := .later }
def SetsSwappedUptoCardSaid : Prop := Claim7.holds Tryd.pinned (.plain (OpenSpec.upto setsSwappedSpec)) setsSwappedUptoCard

/-- THE SECOND FORM's CARD OF 'toolchestlaw04.SetsBack'. -/
def setsBackUptoCard : Claim7 := { stood := { row := setsBackUptoRow, standIns := [], harness := (true, "87f121cb76d0159311cd9cc3884679b43886241b3ed95b8e937432a853616794"), looks := true }, kinds := [], alts := [], laidByText := true, laidKinds := [.data, .data, .data, .data, .sentinel, .sentinel, .pinned], laidTests := true, laidLooks := .later }
def SetsBackUptoCardSaid : Prop := Claim7.holds Tryd.pinned (.plain (OpenSpec.upto setsBackSpec)) setsBackUptoCard

/-- THE SECOND FORM's CARD OF 'toolchestlaw04.SetsDropped'. -/
def setsDroppedUptoCard : Claim7 := { stood := { row := setsDroppedUptoRow, standIns := [], harness := (true, "87f121cb76d0159311cd9cc3884679b43886241b3ed95b8e937432a853616794"), looks := true }, kinds := [], alts := [], laidByText := true, laidKinds := [.data, .data, .data, .data, .sentinel, .sentinel, .pinned], laidTests := true, laidLooks := .later }
def SetsDroppedUptoCardSaid : Prop := Claim7.holds Tryd.pinned (.plain (OpenSpec.upto setsDroppedSpec)) setsDroppedUptoCard

/-- THE SECOND FORM's CARD OF 'toolchestlaw04.SetsSingles'. -/
def setsSinglesUptoCard : Claim7 := { stood := { row := setsSinglesUptoRow, standIns := [], harness := (true, "87f121cb76d0159311cd9cc3884679b43886241b3ed95b8e937432a853616794"), looks := true }, kinds := [], alts := [], laidByText := true, laidKinds := [.data, .data, .data, .data, .sentinel, .sentinel, .pinned], laidTests := true, laidLooks := .later }
def SetsSinglesUptoCardSaid : Prop := Claim7.holds Tryd.pinned (.plain (OpenSpec.upto setsSinglesSpec)) setsSinglesUptoCard

/-- THE SECOND FORM's CARD OF 'toolchestlaw04.SetsClasses'. -/
def setsClassesUptoCard : Claim7 := { stood := { row := setsClassesUptoRow, standIns := [], harness := (true, "87f121cb76d0159311cd9cc3884679b43886241b3ed95b8e937432a853616794"), looks := true }, kinds := [], alts := [], laidByText := true, laidKinds := [.data, .data, .data, .data, .sentinel, .sentinel, .pinned], laidTests := true, laidLooks := .later }
def SetsClassesUptoCardSaid : Prop := Claim7.holds Tryd.pinned (.plain (OpenSpec.upto setsClassesSpec)) setsClassesUptoCard

/-- THE SECOND FORM's CARD OF 'toolchestlaw04.SetsRest'. -/
def setsRestUptoCard : Claim7 := { stood := { row := setsRestUptoRow, standIns := [], harness := (true, "87f121cb76d0159311cd9cc3884679b43886241b3ed95b8e937432a853616794"), looks := true }, kinds := [], alts := [], laidByText := true, laidKinds := [.data, .data, .data, .data, .sentinel, .sentinel, .pinned], laidTests := true, laidLooks := .later }
def SetsRestUptoCardSaid : Prop := Claim7.holds Tryd.pinned (.plain (OpenSpec.upto setsRestSpec)) setsRestUptoCard
end Rows
end Go.Proofs.YtndmngijfleilaaDoor
