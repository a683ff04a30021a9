/- Plain laws of the helpers: a list is the same as itself; alive, from ten rounds on. -/
import Derived.Test.YtemimbjnfadklaaDoorAlive
namespace Go.Proofs.YtemimbjnfadklaaDoor.L
open Go.RowKit Go.Proofs.YtemimbjnfadklaaDoorW.PrintWords Go.Proofs.YtemimbjnfadklaaDoorW.PrintLast Go.Proofs.YtemimbjnfadklaaDoorW.PrintMore

theorem alive_ev : Ev (fun k => toolchestlaw01_alive.f k) true := Ev.of (fun k => toolchestlaw01_alive.mono k) alive_pure

theorem sameTexts_loop (l : List ByteArray) (hl : l.length ≤ 4611686018427387904) (d : Nat) : ∀ (k : Nat) (i : Int), 0 ≤ i → i ≤ l.length → (l.length : Int) - i = d → d < k → toolchestlaw01_SameTexts.l0 k l l i = some true := by
  induction d with
  | zero =>
    intro k i h0 h1 hd hk
    obtain ⟨k, rfl⟩ : ∃ m, k = m + 1 := ⟨k - 1, by omega⟩
    simp only [toolchestlaw01_SameTexts.l0]
    rw [if_neg (by omega)]
  | succ d ih =>
    intro k i h0 h1 hd hk
    obtain ⟨k, rfl⟩ : ∃ m, k = m + 1 := ⟨k - 1, by omega⟩
    have hlt : i < (l.length : Int) := by omega
    simp only [toolchestlaw01_SameTexts.l0]
    rw [if_pos hlt, if_pos h0, if_pos hlt, if_pos trivial]
    have hw : wrap64 (i + 1) = i + 1 := by unfold wrap64; omega
    rw [hw]
    exact ih k (i + 1) (by omega) (by omega) (by omega) (by omega)
theorem sameTexts_ev (l : List ByteArray) (hl : l.length ≤ 4611686018427387904) : Ev (fun k => toolchestlaw01_SameTexts.f k l l) true := by
  refine ⟨l.length + 1, fun k hk => ?_⟩
  show toolchestlaw01_SameTexts.f k l l = some true
  unfold toolchestlaw01_SameTexts.f
  rw [if_pos rfl]
  exact sameTexts_loop l hl l.length k 0 (by omega) (by omega) (by omega) (by omega)

theorem sameFlags_loop (l : List S45) (hl : l.length ≤ 4611686018427387904) (d : Nat) : ∀ (k : Nat) (i : Int), 0 ≤ i → i ≤ l.length → (l.length : Int) - i = d → d < k → toolchestlaw01_SameFlags.l0 k l l i = some true := by
  induction d with
  | zero =>
    intro k i h0 h1 hd hk
    obtain ⟨k, rfl⟩ : ∃ m, k = m + 1 := ⟨k - 1, by omega⟩
    simp only [toolchestlaw01_SameFlags.l0]
    rw [if_neg (by omega)]
  | succ d ih =>
    intro k i h0 h1 hd hk
    obtain ⟨k, rfl⟩ : ∃ m, k = m + 1 := ⟨k - 1, by omega⟩
    have hlt : i < (l.length : Int) := by omega
    simp only [toolchestlaw01_SameFlags.l0]
    rw [if_pos hlt, if_pos h0, if_pos hlt, if_neg (by simp)]
    have hw : wrap64 (i + 1) = i + 1 := by unfold wrap64; omega
    rw [hw]
    exact ih k (i + 1) (by omega) (by omega) (by omega) (by omega)
theorem sameFlags_ev (l : List S45) (hl : l.length ≤ 4611686018427387904) : Ev (fun k => toolchestlaw01_SameFlags.f k l l) true := by
  refine ⟨l.length + 1, fun k hk => ?_⟩
  show toolchestlaw01_SameFlags.f k l l = some true
  unfold toolchestlaw01_SameFlags.f
  rw [if_pos rfl]
  exact sameFlags_loop l hl l.length k 0 (by omega) (by omega) (by omega) (by omega)
end Go.Proofs.YtemimbjnfadklaaDoor.L
