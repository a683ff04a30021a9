/- The walk of the closure that takes the next word. -/
import Derived.Test.YtemimbjnfadklaaDoorLetters
namespace Go.Proofs.YtemimbjnfadklaaDoor.L
open Go.RowKit Go.Maps Go.Proofs.YtemimbjnfadklaaDoorW.PrintWords

/-- What a call of 'next' leaves: the box is turned. -/
def NextPost (w : World) (B : Nat) (v : Value) (a : ByteArray) (e : Ending) (w' : World) : Prop :=
  e = .returned (.string a) ∧ ∃ n, w' = (w.setCell ⟨B, 0, none⟩ v).drewN n

set_option maxHeartbeats 1000000 in
theorem next_calls (ad : Addr) (n c B : Nat) (a : ByteArray) (w : World) (hb : w.heap[B]? = some (.cells #[.slice (some ad) (n + 1) c] 22 (0, 0))) (hc : w.cell? ad = some (.string a)) (hle : n + 1 ≤ c) (hne : ad.block ≠ B) :
    Calls Tryd.prog 19 #[.pointer (some ⟨B, 0, none⟩)] w (NextPost w B (.slice (if c = 1 then some ad else some (ad.add 1)) n (c - 1)) a) := by
  have hcell := cell_of_one hb
  have hfree := free_of_one hb
  have hn0 : (0 : Int) ≤ (n : Int) := by omega
  have hn1 : (0 : Int) < (n : Int) + 1 := by omega
  have hn2 : (1 : Int) ≤ (n : Int) + 1 := by omega
  clear hb
  by_cases h1 : c = 1
  · subst h1
    obtain rfl : n = 0 := by omega
    rw [if_pos rfl]
    go_enter Tryd.func19, Tryd.ntmps19
    go_wp2
    go_region
    all_goals
      go_wp2
      go_ret
      exact ⟨rfl, 1, rfl⟩
  · rw [if_neg h1]
    go_enter Tryd.func19, Tryd.ntmps19
    go_wp2
    go_region
    all_goals
      go_wp2
      go_ret
      exact ⟨rfl, 1, rfl⟩
end Go.Proofs.YtemimbjnfadklaaDoor.L
