-- Printed by the kit's printer, run by wip/tools/xprint.py with some functions given; not trusted: Lean checks it.
import Derived.Test.YtndmngijfleilaaDoorProg
import Derived.Below
import Derived.Deep.Draws
import Derived.Deep.AppendLies
import Derived.Maps.AppendAt
import Derived.OwnWalk
import Derived.Laws.BytesArg
import Derived.Laws.MakeOwn
import Derived.Laws.OwnMore
import Derived.Deep.OwnRows
import Derived.Tactics
import Derived.Lib.ConvBytes
import Derived.Laws.Slices
import Derived.WalkKit
import Derived.KernelRfl
import Derived.RowKit3
import Derived.Deep.LoopGhost
import Derived.Deep.QuietTactic
import Derived.BigQuiet
import Derived.WideLaws
import Derived.Deep.DeepCutAuto
import Derived.Deep.CutBlock
import Derived.Deep.RegionHeld3
import Derived.Laws.Rows
import Derived.Lib.AppendStr
import Derived.ArgAppend
import Derived.Laws.IdiomCopy
import Derived.OrdersHeld
import Derived.Laws.BitsLemmas
import Derived.RowKit
import Derived.Test.YtndmngijfleilaaDoorWWords
import Derived.Test.YtndmngijfleilaaDoorWLast
import Derived.Test.YtndmngijfleilaaDoorWTab
import Derived.Test.YtndmngijfleilaaDoorWFour
import Derived.Test.YtndmngijfleilaaDoorWQPut
import Derived.Test.YtndmngijfleilaaDoorWApart
import Derived.Test.YtndmngijfleilaaDoorWArr
import Derived.Test.YtndmngijfleilaaDoorWZeros
import Derived.Test.YtndmngijfleilaaDoorWFoot
import Derived.Test.YtndmngijfleilaaDoorWKept
import Derived.Test.YtndmngijfleilaaDoorWShare
import Derived.Test.YtndmngijfleilaaDoorWN
import Derived.Test.YtndmngijfleilaaDoorWFootNe
import Derived.Test.YtndmngijfleilaaDoorWAt
import Derived.Test.YtndmngijfleilaaDoorWEqStruct
import Derived.Test.YtndmngijfleilaaDoorWRepsOne
import Derived.Test.YtndmngijfleilaaDoorWInv
import Derived.Test.YtndmngijfleilaaDoorWInvWords
import Derived.Test.YtndmngijfleilaaDoorWGuard
import Derived.Test.YtndmngijfleilaaDoorWNEv
import Derived.Test.YtndmngijfleilaaDoorWMore
namespace Go.Proofs.YtndmngijfleilaaDoor.L
open Go.RowKit Go.Proofs.YtndmngijfleilaaDoorW.PrintWords Go.Proofs.YtndmngijfleilaaDoorW.PrintLast Go.Proofs.YtndmngijfleilaaDoorW.PrintMore
attribute [local go_sem] max2_int min2_int max_two min_two max_three min_three max_four min_four   -- for this text's walks alone
set_option linter.unusedVariables false
set_option linter.unusedSimpArgs false



def errW : Option Int → Value
  | none => .nilIface
  | some c => .iface 0 (.int .i64 c)
theorem errW_none : errW none = .nilIface := rfl
theorem errW_some (c : Int) : errW (some c) = .iface 0 (.int .i64 c) := rfl

theorem info3 : (Tryd.prog.info? 3).map (fun i => (i.zero, i.size, i.bytes)) = some (some (.int .i64 0), 1, 8) := by kernel_rfl
theorem info5 : (Tryd.prog.info? 5).map (fun i => (i.zero, i.size, i.bytes)) = some (some (.int .u8 0), 1, 1) := by kernel_rfl
-- the values' own types

end Go.Proofs.YtndmngijfleilaaDoor.L
