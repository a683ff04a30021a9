/- The plain law of OptsNone. -/
import Derived.Test.YtemimbjnfadklaaDoorPlain
import Derived.Test.YtemimbjnfadklaaDoorLx10
namespace Go.Proofs.YtemimbjnfadklaaDoor.L
open Go.RowKit Go.Proofs.YtemimbjnfadklaaDoorW.PrintWords Go.Proofs.YtemimbjnfadklaaDoorW.PrintLast Go.Proofs.YtemimbjnfadklaaDoorW.PrintMore

theorem none_true (a0 : ByteArray) (l1 : List ByteArray) : Ev (fun k => toolchestlaw01_OptsNone.j0 k a0 l1 true) true := by
  refine Ev.step (f := fun k => (toolchestlaw01_alive.f k).bind fun t => some t) (fun k => by simp only [toolchestlaw01_OptsNone.j0]; rw [if_pos trivial]) ?_
  exact Ev.bind alive_ev (Ev.now true)

theorem none_false (a0 : ByteArray) (l1 : List ByteArray) (hs : a0.size ≤ 4000) (hl : l1.length ≤ 256) (ho : ∀ a r, l1 = a :: r → isOpt a = false) : Ev (fun k => toolchestlaw01_OptsNone.j0 k a0 l1 false) true := by
  have hb : bulkO l1 = 0 := by
    cases l1 with
    | nil => rfl
    | cons a r => simp [bulkO, ho a r rfl]
  have hgo : ∀ f, parseGo f (l1.length + 1) l1 = some ([], l1) := by
    intro f
    cases l1 with
    | nil => rfl
    | cons a r => simp [parseGo, ho a r rfl]
  have hp : opts_Parse.f a0 l1 = some ([], [], 1) ∨ opts_Parse.f a0 l1 = some ([], l1, 0) := by
    unfold opts_Parse.f
    rw [if_pos ⟨hs, by rw [hb]; omega, by omega⟩]
    cases lettersOf a0 with
    | none => exact .inl rfl
    | some f =>
      right
      simp only
      rw [if_neg (by omega), hgo]
      rfl
  rcases hp with hp | hp
  · refine Ev.step (f := fun _ => some true) (fun k => ?_) (Ev.now true)
    simp only [toolchestlaw01_OptsNone.j0]
    rw [if_neg (by simp), hp]
    simp
  · refine Ev.step (f := fun k => (toolchestlaw01_SameTexts.f k l1 l1).bind fun t => some t) (fun k => ?_) (Ev.bind (sameTexts_ev l1 (by omega)) (Ev.now true))
    simp only [toolchestlaw01_OptsNone.j0]
    rw [if_neg (by simp), hp]
    simp

theorem optsNone_pure (a0 : ByteArray) (l1 : List ByteArray) : ∃ k, toolchestlaw01_OptsNone.f k a0 l1 = some true := by
  refine Ev.rounds (g := fun k => toolchestlaw01_OptsNone.f k a0 l1) ?_
  unfold toolchestlaw01_OptsNone.f
  refine Ev.bind alive_ev ?_
  simp only [if_true]
  by_cases h1 : (l1.length : Int) = 0
  · simp only [if_pos h1]
    exact none_true a0 l1
  · simp only [if_neg h1]
    by_cases h2 : (l1.length : Int) > 256
    · simp only [if_pos h2]
      exact none_true a0 l1
    · simp only [if_neg h2, if_pos (show (0 : Int) < (l1.length : Int) by omega)]
      have hrd : ∀ a r, l1 = a :: r → rdOf ByteArray.empty l1 0 = a := by rintro a r rfl; rfl
      have hsz : ∀ b : Bool, b = decide ((a0.size : Int) > 2000) → (∀ a r, l1 = a :: r → isOpt a = false) → Ev (fun k => toolchestlaw01_OptsNone.j0 k a0 l1 b) true := by
        intro b hb ho
        cases b with
        | true => exact none_true a0 l1
        | false => exact none_false a0 l1 (by simp at hb; omega) (by omega) ho
      by_cases h3 : ((rdOf ByteArray.empty l1 0).size : Int) > 1
      · simp only [if_pos h3, if_pos (show (0 : Int) < ((rdOf ByteArray.empty l1 0).size : Int) by omega)]
        by_cases h4 : bt (rdOf ByteArray.empty l1 0) 0 = 45
        · simp only [if_pos h4]
          exact none_true a0 l1
        · simp only [if_neg h4]
          exact hsz _ rfl (fun a r e => by
            rw [hrd a r e] at h4
            simp [isOpt, h4])
      · simp only [if_neg h3]
        exact hsz _ rfl (fun a r e => by
          rw [hrd a r e] at h3
          simp [isOpt]
          omega)
end Go.Proofs.YtemimbjnfadklaaDoor.L
