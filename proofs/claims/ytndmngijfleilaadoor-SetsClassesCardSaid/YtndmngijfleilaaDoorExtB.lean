/- The contracts of Parse, Swap, Drop, Squeeze, Rest. -/
import Derived.Test.YtndmngijfleilaaDoorParse
import Derived.Test.YtndmngijfleilaaDoorSwap
import Derived.Test.YtndmngijfleilaaDoorDrop
namespace Go.Proofs.YtndmngijfleilaaDoor.L
open Go.RowKit Go.Proofs.YtndmngijfleilaaDoorW.PrintWords Go.Proofs.YtndmngijfleilaaDoorW.PrintLast Go.Proofs.YtndmngijfleilaaDoorW.PrintMore
def sets_Parse.f (a0 : ByteArray) : Option (List Int × Int) := if a0.size ≤ 4000000000 then some (parseOf a0.data.toList) else none
theorem sets_Parse.calls (a0 : ByteArray) (r1 : List Int) (r2 : Int) (w : World) (h : sets_Parse.f a0 = some (r1, r2)) (G : Glob w) :
    Calls Tryd.prog 15 #[.string a0] w fun e w' => ∃ v0_ : Value, e = .returned (.tuple #[v0_, .int .i64 r2]) ∧ Kd.R (Kd.int .u8) 5 w' w.heap.size (fun _ => True) v0_ r1 ∧ Below w.heap.size w w' := by
  unfold sets_Parse.f at h
  by_cases hg : a0.size ≤ 4000000000
  · rw [if_pos hg] at h
    have hw := parse_walk a0 hg w G
    rw [Option.some.inj h] at hw
    exact hw
  · rw [if_neg hg] at h
    cases h
end Go.Proofs.YtndmngijfleilaaDoor.L
