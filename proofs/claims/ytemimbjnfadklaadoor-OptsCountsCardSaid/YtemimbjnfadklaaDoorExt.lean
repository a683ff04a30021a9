/- What the printed texts take as given: the contracts of Parse, Contains, Trim, Atoi. Short names for three movers. -/
import Derived.Test.YtemimbjnfadklaaDoorParse
namespace Go.Proofs.YtemimbjnfadklaaDoor.L
open Go.RowKit Go.Proofs.YtemimbjnfadklaaDoorW.PrintWords Go.Proofs.YtemimbjnfadklaaDoorW.PrintLast Go.Proofs.YtemimbjnfadklaaDoorW.PrintMore
theorem bA {w W : World} (h : Below w.heap.size w W) (o : Obj) : Below w.heap.size w (W.alloc o) := below_alloc h o
theorem bN {B : Nat} {w W : World} (h : Below B w W) (n : Nat) : Below B w (W.drewN n) := pw_below_drewN h n
end Go.Proofs.YtemimbjnfadklaaDoor.L
