/- (Plan).blocks: the walk: a function over the boxed text and the boxed plan. -/
import Derived.Test.YtomnpmfmlbmpeaaDoorSteps
namespace Go.Proofs.YtomnpmfmlbmpeaaDoor.L
open Go.RowKit Go.Proofs.YtomnpmfmlbmpeaaDoorW.PrintWords

set_option maxHeartbeats 4000000 in
set_option maxRecDepth 100000 in
theorem blocks_walk (p : Pl) (s : ByteArray) (w : World) : Calls Tryd.prog 14 #[.agg p.cells, .string s] w fun e w' => e = .returned (.func (.func 24) #[] #[.pointer (some ⟨w.heap.size + 1, 0, none⟩), .pointer (some ⟨w.heap.size, 0, none⟩)]) ∧ w' = (w.alloc (.cells p.cells 26)).alloc (.cells #[.string s] 9) := by
  obtain ⟨i, o, sk, ct, se, kp, sw, up, lo, sy⟩ := p
  simp only [Pl.cells]
  go_enter Tryd.func14, Tryd.ntmps14
  go_wp2
  go_ret
  exact ⟨rfl, rfl⟩
end Go.Proofs.YtomnpmfmlbmpeaaDoor.L
