/- What the printed texts take as given: the contracts of Octal, Read, Apply, Split, clause, Text. -/
import Derived.Test.YtajnkflopndejaaDoorText
import Derived.Test.YtajnkflopndejaaDoorOctal
import Derived.Test.YtajnkflopndejaaDoorClause
import Derived.Test.YtajnkflopndejaaDoorSplit
namespace Go.Proofs.YtajnkflopndejaaDoor.L
open Go.RowKit Go.Proofs.YtajnkflopndejaaDoorW.PrintWords Go.Proofs.YtajnkflopndejaaDoorW.PrintLast Go.Proofs.YtajnkflopndejaaDoorW.PrintMore
theorem bA {w W : World} (h : Below w.heap.size w W) (o : Obj) : Below w.heap.size w (W.alloc o) := below_alloc h o
theorem bN {B : Nat} {w W : World} (h : Below B w W) (n : Nat) : Below B w (W.drewN n) := pw_below_drewN h n
def modes_Text.f (a0 a1 : Int) : Option ByteArray := some (strOfNums (txtPre a0 a1 9))
theorem modes_Text.calls (a0 a1 : Int) (r : ByteArray) (w : World) (h : modes_Text.f a0 a1 = some r) :
    Calls Tryd.prog 13 #[.int .u8 a0, .int .i64 a1] w fun e w' => e = .returned (.string r) ∧ Below w.heap.size w w' := by
  cases h
  exact text_walk a0 a1 w
end Go.Proofs.YtajnkflopndejaaDoor.L
