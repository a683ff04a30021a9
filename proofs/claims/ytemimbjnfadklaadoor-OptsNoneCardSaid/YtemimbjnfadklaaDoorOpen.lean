/- How the arguments are opened, and the world that shows that the rows' conditions can be met. -/
import Derived.Test.YtemimbjnfadklaaDoorCards
import Derived.Test.YtemimbjnfadklaaDoorTie
import Derived.Test.YtemimbjnfadklaaDoorLx0
import Derived.ProofKit
import Derived.OpenShut
import Derived.Lay
import Derived.LaidOnce
import Derived.SliceStrings
namespace Go.Proofs.YtemimbjnfadklaaDoor.L
open Go.RowKit Go.ChangeShapes Go.WideShapes Go.ChangeAt Go.Proofs.YtemimbjnfadklaaDoorW.PrintWords

theorem own : ownKnob Tryd.prog.godebug = none := by kernel_rfl
theorem laidOut : laidOutB Tryd.prog = true := by kernel_rfl

theorem C_strings {w : World} {a : Addr} {len cap : Nat} {ss : List ByteArray} (hl : len ≤ ss.length) (hm : cap ≤ maxLen) (hlc : len ≤ cap) (hc : ∀ i, i < ss.length → w.cell? (a.add i) = some (.string (ss.getD i ByteArray.empty))) :
    Kd.C Kd.string w (some a) (ss.take len).length (ss.take len) := by
  have hlen : (ss.take len).length = len := by simp; omega
  refine ⟨rfl, by rw [hlen]; unfold maxLen at hm; omega, fun _ => ⟨a, rfl, fun j p hp => ⟨[.string p], rfl, rfl, fun i u hu => ?_⟩⟩⟩
  have hj : j < len := by
    have := (List.getElem?_eq_some_iff.1 hp).1
    omega
  cases i with
  | succ i => simp at hu
  | zero =>
    simp at hu
    subst hu
    have h1 := hc j (by omega)
    have e1 : Kd.string.sz = 1 := rfl
    rw [e1, Nat.mul_one, Nat.add_zero, h1]
    rw [List.getElem?_take, if_pos hj] at hp
    rw [List.getD_eq_getElem?_getD, hp]
    rfl

/-- A slice of words that came in: what the walks are told of it. -/
theorem open_words {H : Type} {enc : TypeId × Value → H} {W : World} {a : Option Addr} {len cap : Nat} {d : DataW H} {p : List MemPlace} (h : DataW.Trod enc Tryd.prog W 0 (fun _ => true) true 22 (.slice a len cap) d p) :
    ∃ l : List ByteArray, l.length = len ∧ len ≤ cap ∧ Kd.C Kd.string W a l.length l := by
  obtain ⟨fuel, hf⟩ := h
  rcases open_strings Tryd.underlying22 Tryd.underlying9 (by kernel_rfl) hf with ⟨hcs, _⟩ | ⟨x, l, c, ss, hcs, _, hl, hm, hz, _, hcell, _⟩
  · simp [Value.cells] at hcs
    obtain ⟨rfl, rfl, rfl⟩ := hcs
    exact ⟨[], rfl, Nat.le_refl _, Kd.C_nil _ _⟩
  · simp [Value.cells] at hcs
    obtain ⟨rfl, rfl, rfl⟩ := hcs
    simp at hz
    have hle : len ≤ ss.length := by omega
    exact ⟨ss.take len, by simp; omega, hl, C_strings hle hm hl hcell⟩
end Go.Proofs.YtemimbjnfadklaaDoor.L
