/- 'alive' answers true: its calls at written words, reckoned. -/
import Derived.Test.YtemimbjnfadklaaDoorLx7
namespace Go.Proofs.YtemimbjnfadklaaDoor.L
open Go.RowKit
theorem alive_pure : toolchestlaw01_alive.f 10 = some true := by
  simp only [toolchestlaw01_alive.f]
  have h1 : opts_Parse.f ⟨#[97, 110, 58]⟩ [⟨#[45, 97, 110]⟩, ⟨#[53]⟩, ⟨#[45, 45]⟩, ⟨#[45, 97]⟩] = some ([⟨97, ⟨#[]⟩⟩, ⟨110, ⟨#[53]⟩⟩], [⟨#[45, 97]⟩], 0) := by rfl
  have h2 : opts_Parse.f ⟨#[97, 110, 58]⟩ [⟨#[45, 97]⟩, ⟨#[45, 110, 53]⟩, ⟨#[120]⟩, ⟨#[45, 97]⟩] = some ([⟨97, ⟨#[]⟩⟩, ⟨110, ⟨#[53]⟩⟩], [⟨#[120]⟩, ⟨#[45, 97]⟩], 0) := by rfl
  have h3 : opts_Parse.f ⟨#[97, 110, 58]⟩ [⟨#[45, 98]⟩] = some ([], [], 4) := by rfl
  have h4 : opts_Parse.f ⟨#[97, 97]⟩ [] = some ([], [], 1) := by rfl
  rw [h1, h2, h3, h4]
  simp only [Option.bind_some]
  have h5 : opts_Number.f 10 ⟨#[45, 48, 48, 55]⟩ = some (-7, true) := by decide +kernel
  rw [h5]
  decide +kernel
end Go.Proofs.YtemimbjnfadklaaDoor.L
