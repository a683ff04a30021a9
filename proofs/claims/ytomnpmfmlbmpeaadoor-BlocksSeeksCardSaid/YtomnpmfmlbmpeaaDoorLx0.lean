-- Printed by the kit's printer, run by wip/tools/xprint.py with some functions given; not trusted: Lean checks it.
import Derived.Test.YtomnpmfmlbmpeaaDoorProg
import Derived.Below
import Derived.Deep.Draws
import Derived.Deep.AppendLies
import Derived.Maps.AppendAt
import Derived.OwnWalk
import Derived.Laws.BytesArg
import Derived.Laws.MakeOwn
import Derived.Laws.OwnMore
import Derived.Deep.OwnRows
import Derived.Tactics
import Derived.Lib.ConvBytes
import Derived.Laws.Slices
import Derived.WalkKit
import Derived.KernelRfl
import Derived.RowKit3
import Derived.Deep.LoopGhost
import Derived.Deep.QuietTactic
import Derived.BigQuiet
import Derived.WideLaws
import Derived.Deep.DeepCutAuto
import Derived.Deep.CutBlock
import Derived.Deep.RegionHeld3
import Derived.Laws.Rows
import Derived.Lib.AppendStr
import Derived.ArgAppend
import Derived.Laws.IdiomCopy
import Derived.OrdersHeld
import Derived.Laws.BitsLemmas
import Derived.RowKit
import Derived.Test.YtomnpmfmlbmpeaaDoorWWords
import Derived.Test.YtomnpmfmlbmpeaaDoorWLast
import Derived.Test.YtomnpmfmlbmpeaaDoorWTab
import Derived.Test.YtomnpmfmlbmpeaaDoorWFour
import Derived.Test.YtomnpmfmlbmpeaaDoorWQPut
import Derived.Test.YtomnpmfmlbmpeaaDoorWApart
import Derived.Test.YtomnpmfmlbmpeaaDoorWArr
import Derived.Test.YtomnpmfmlbmpeaaDoorWZeros
import Derived.Test.YtomnpmfmlbmpeaaDoorWFoot
import Derived.Test.YtomnpmfmlbmpeaaDoorWKept
import Derived.Test.YtomnpmfmlbmpeaaDoorWShare
import Derived.Test.YtomnpmfmlbmpeaaDoorWN
import Derived.Test.YtomnpmfmlbmpeaaDoorWFootNe
import Derived.Test.YtomnpmfmlbmpeaaDoorWAt
import Derived.Test.YtomnpmfmlbmpeaaDoorWEqStruct
import Derived.Test.YtomnpmfmlbmpeaaDoorWRepsOne
import Derived.Test.YtomnpmfmlbmpeaaDoorWInv
import Derived.Test.YtomnpmfmlbmpeaaDoorWInvWords
import Derived.Test.YtomnpmfmlbmpeaaDoorWGuard
import Derived.Test.YtomnpmfmlbmpeaaDoorWNEv
import Derived.Test.YtomnpmfmlbmpeaaDoorWMore
namespace Go.Proofs.YtomnpmfmlbmpeaaDoor.L
open Go.RowKit Go.Proofs.YtomnpmfmlbmpeaaDoorW.PrintWords Go.Proofs.YtomnpmfmlbmpeaaDoorW.PrintLast Go.Proofs.YtomnpmfmlbmpeaaDoorW.PrintMore
attribute [local go_sem] max2_int min2_int max_two min_two max_three min_three max_four min_four   -- for this text's walks alone
set_option linter.unusedVariables false
set_option linter.unusedSimpArgs false



def errW : Option Int → Value
  | none => .nilIface
  | some c => .iface 0 (.int .i64 c)
theorem errW_none : errW none = .nilIface := rfl
theorem errW_some (c : Int) : errW (some c) = .iface 0 (.int .i64 c) := rfl

-- the values' own types

end Go.Proofs.YtomnpmfmlbmpeaaDoor.L
