/-
  DERIVED. GIVEN WITH THE SEED: THE CARDS: each row of YtemimbjnfadklaaDoorRows.lean that lists a variable, with what it lists TIED to the program's text (the seventh form; the later family's looks); each row that meets fmt, with fmt's text TOLD by the authors' own Lean function (tested against real Go, not proved from fmt's source: count such statements apart). THE CARD IS WHAT COUNTS. Prove the row's statement (the work); the ties are given (YtemimbjnfadklaaDoorTie.lean); close each card by the builder's one call (the guide's Derived/Test/ToyasCard.lean, 'card_holds'). Laid BY PROGRAM, IN A SANDBOX (cutbox-door.mjs). By AI agents, Wed Nov 11 2026. No macro, syntax, notation, axiom, sorry.
-/
import Derived.Test.YtemimbjnfadklaaDoorRows
import GoSem.ClaimSeven
namespace Go.Proofs.YtemimbjnfadklaaDoor
namespace Rows

/-- THE TIED CARD OF 'toolchestlaw01.OptsEnd'. -/
def optsEndCard : Claim7 := { stood := { row := optsEndRow, standIns := [], harness := (true, "e6e8ae417bd7a8d8eff74a5254fa4f22467200790f3c90c1aeb1c3ac0569b0fd"), looks := true }, kinds := [], alts := [], laidByText := true, laidKinds := [.data, .data, .data, .data, .sentinel, .sentinel, .pinned], laidTests := true, laidLooks := .later }
def OptsEndCardSaid : Prop := Claim7.holds Tryd.pinned (.plain (OpenSpec.ofChange optsEndSpec)) optsEndCard

/-- THE TIED CARD OF 'toolchestlaw01.OptsNone'. -/
def optsNoneCard : Claim7 := { stood := { row := optsNoneRow, standIns := [], harness := (true, "e6e8ae417bd7a8d8eff74a5254fa4f22467200790f3c90c1aeb1c3ac0569b0fd"), looks := true }, kinds := [], alts := [], laidByText := true, laidKinds := [.data, .data, .data, .data, .sentinel, .sentinel, .pinned], laidTests := true, laidLooks := .later }
def OptsNoneCardSaid : Prop := Claim7.holds Tryd.pinned (.plain (OpenSpec.ofChange optsNoneSpec)) optsNoneCard

/-- THE TIED CARD OF 'toolchestlaw01.OptsDigits'. -/
def optsDigitsCard : Claim7 := { stood := { row := optsDigitsRow, standIns := [], harness := (true, "e6e8ae417bd7a8d8eff74a5254fa4f22467200790f3c90c1aeb1c3ac0569b0fd"), looks := true }, kinds := [], alts := [], laidByText := true, laidKinds := [.data, .data, .data, .data, .sentinel, .sentinel, .pinned], laidTests := true, laidLooks := .later }
def OptsDigitsCardSaid : Prop := Claim7.holds Tryd.pinned (.plain (OpenSpec.ofChange optsDigitsSpec)) optsDigitsCard

/-- THE TIED CARD OF 'toolchestlaw01.OptsCounts'. -/
def optsCountsCard : Claim7 := { stood := { row := optsCountsRow, standIns := [], harness := (true, "e6e8ae417bd7a8d8eff74a5254fa4f22467200790f3c90c1aeb1c3ac0569b0fd"), looks := true }, kinds := [], alts := [], laidByText := true, laidKinds := [.data, .data, .data, .data, .sentinel, .sentinel, .pinned], laidTests := true, laidLooks := .later }
def OptsCountsCardSaid : Prop := Claim7.holds Tryd.pinned (.plain (OpenSpec.ofChange optsCountsSpec)) optsCountsCard

/-- THE SECOND FORM's CARD OF 'toolchestlaw01.OptsEnd'. -/
def optsEndUptoCard : Claim7 := { stood := { row := optsEndUptoRow, standIns := [], harness := (true, "e6e8ae417bd7a8d8eff74a5254fa4f22467200790f3c90c1aeb1c3ac0569b0fd"), looks := true }, kinds := [], alts := [], laidByText := true, laidKinds := [.data, .data, .data, .data, .sentinel, .sentinel, .pinned], laidTests := true, laidLooks := .later }
def OptsEndUptoCardSaid : Prop := Claim7.holds Tryd.pinned (.plain (OpenSpec.upto optsEndSpec)) optsEndUptoCard

/-- THE SECOND FORM's CARD OF 'toolchestlaw01.OptsNone'. -/
def optsNoneUptoCard : Claim7 := { stood := { row := optsNoneUptoRow, standIns := [], harness := (true, "e6e8ae417bd7a8d8eff74a5254fa4f22467200790f3c90c1aeb1c3ac0569b0fd"), looks := true }, kinds := [], alts := [], laidByText := true, laidKinds := [.data, .data, .data, .data, .sentinel, .sentinel, .pinned], laidTests := true, laidLooks := .later }
def OptsNoneUptoCardSaid : Prop := Claim7.holds Tryd.pinned (.plain (OpenSpec.upto optsNoneSpec)) optsNoneUptoCard

/-- THE SECOND FORM's CARD OF 'toolchestlaw01.OptsDigits'. -/
def optsDigitsUptoCard : Claim7 := { stood := { row := optsDigitsUptoRow, standIns := [], harness := (true, "e6e8ae417bd7a8d8eff74a5254fa4f22467200790f3c90c1aeb1c3ac0569b0fd"), looks := true }, kinds := [], alts := [], laidByText := true, laidKinds := [.data, .data, .data, .data, .sentinel, .sentinel, .pinned], laidTests := true, laidLooks := .later }
def OptsDigitsUptoCardSaid : Prop := Claim7.holds Tryd.pinned (.plain (OpenSpec.upto optsDigitsSpec)) optsDigitsUptoCard

/-- THE SECOND FORM's CARD OF 'toolchestlaw01.OptsCounts'. -/
def optsCountsUptoCard : Claim7 := { stood := { row := optsCountsUptoRow, standIns := [], harness := (true, "e6e8ae417bd7a8d8eff74a5254fa4f22467200790f3c90c1aeb1c3ac0569b0fd"), looks := true }, kinds := [], alts := [], laidByText := true, laidKinds := [.data, .data, .data, .data, .sentinel, .sentinel, .pinned], laidTests := true, laidLooks := .later }
def OptsCountsUptoCardSaid : Prop := Claim7.holds Tryd.pinned (.plain (OpenSpec.upto optsCountsSpec)) optsCountsUptoCard
end Rows
end Go.Proofs.YtemimbjnfadklaaDoor
