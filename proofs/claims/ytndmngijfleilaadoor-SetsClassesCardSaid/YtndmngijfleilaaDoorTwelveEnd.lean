/- SetsClasses: the walk and the card's law. -/
import Derived.Test.YtndmngijfleilaaDoorTwelveA
import Derived.Test.YtndmngijfleilaaDoorTwelveB
import Derived.Test.YtndmngijfleilaaDoorTwelveC
import Derived.Test.YtndmngijfleilaaDoorTwelveD
namespace Go.Proofs.YtndmngijfleilaaDoor.L
open Go.RowKit Go.Proofs.YtndmngijfleilaaDoorW.PrintWords Go.Proofs.YtndmngijfleilaaDoorW.PrintLast Go.Proofs.YtndmngijfleilaaDoorW.PrintMore

theorem twelve_all (c : Int) (w : World) (h0 : 0 ≤ c) (h1 : c ≤ 255) (G : Glob w) : Calls Tryd.prog 7 #[.int .u8 c] w fun e w' => e = .returned (.bool true) ∧ Below w.heap.size w w' := by
  obtain ⟨p, hp, hbc, e1, e2, e3, e4⟩ := pat_of c h0 h1
  simp only [pats, List.mem_cons, List.not_mem_nil, or_false] at hp
  rcases hp with rfl | rfl | rfl | rfl | rfl | rfl | rfl | rfl | rfl | rfl | rfl | rfl
  all_goals simp only [List.map_cons, List.map_nil, decide_eq_true_eq, decide_eq_false_iff_not] at hbc e1 e2 e3 e4
  · exact twelve_walk0 c w h0 h1 G hbc e1 e2 e3 e4
  · exact twelve_walk1 c w h0 h1 G hbc e1 e2 e3 e4
  · exact twelve_walk2 c w h0 h1 G hbc e1 e2 e3 e4
  · exact twelve_walk3 c w h0 h1 G hbc e1 e2 e3 e4
  · exact twelve_walk4 c w h0 h1 G hbc e1 e2 e3 e4
  · exact twelve_walk5 c w h0 h1 G hbc e1 e2 e3 e4
  · exact twelve_walk6 c w h0 h1 G hbc e1 e2 e3 e4
  · exact twelve_walk7 c w h0 h1 G hbc e1 e2 e3 e4
  · exact twelve_walk8 c w h0 h1 G hbc e1 e2 e3 e4
  · exact twelve_walk9 c w h0 h1 G hbc e1 e2 e3 e4
  · exact twelve_walk10 c w h0 h1 G hbc e1 e2 e3 e4
  · exact twelve_walk11 c w h0 h1 G hbc e1 e2 e3 e4
def toolchestlaw04_SetsClasses.f (c : Int) : Option Bool := if 0 ≤ c ∧ c ≤ 255 then some true else none
theorem toolchestlaw04_SetsClasses.calls (a0 : Int) (r : Bool) (w : World) (h : toolchestlaw04_SetsClasses.f a0 = some r) (GL : Glob w) :
    Calls Tryd.prog 7 #[.int .u8 a0] w fun e w' => e = .returned (.bool r) ∧ Below w.heap.size w w' := by
  unfold toolchestlaw04_SetsClasses.f at h
  by_cases hg : 0 ≤ a0 ∧ a0 ≤ 255
  · rw [if_pos hg] at h
    cases h
    exact twelve_all a0 w hg.1 hg.2 GL
  · rw [if_neg hg] at h
    cases h
theorem setsClasses_pure (c : Int) (h : 0 ≤ c ∧ c ≤ 255) : toolchestlaw04_SetsClasses.f c = some true := by
  unfold toolchestlaw04_SetsClasses.f
  rw [if_pos h]
end Go.Proofs.YtndmngijfleilaaDoor.L
