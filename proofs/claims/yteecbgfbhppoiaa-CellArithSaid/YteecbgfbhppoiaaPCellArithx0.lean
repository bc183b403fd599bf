-- Written by a program: a turned copy of the print tool.
import Derived.Test.YteecbgfbhppoiaaProg
import Derived.Below
import Derived.Deep.Draws
import Derived.Deep.AppendLies
import Derived.Maps.AppendAt
import Derived.OwnWalk
import Derived.Laws.BytesArg
import Derived.Laws.MakeOwn
import Derived.Laws.OwnMore
import Derived.Deep.OwnRows
import Derived.Tactics
import Derived.Lib.ConvBytes
import Derived.Laws.Slices
import Derived.WalkKit
import Derived.KernelRfl
import Derived.RowKit3
import Derived.Deep.LoopGhost
import Derived.Deep.QuietTactic
import Derived.BigQuiet
import Derived.WideLaws
import Derived.Deep.DeepCutAuto
import Derived.Deep.CutBlock
import Derived.Deep.RegionHeld3
import Derived.Laws.Rows
import Derived.Lib.AppendStr
import Derived.ArgAppend
import Derived.Laws.IdiomCopy
import Derived.OrdersHeld
import Derived.Laws.BitsLemmas
import Derived.RowKit
import Derived.Test.YteecbgfbhppoiaaWWords
import Derived.Test.YteecbgfbhppoiaaWLast
import Derived.Test.YteecbgfbhppoiaaWTab
import Derived.Test.YteecbgfbhppoiaaWFour
import Derived.Test.YteecbgfbhppoiaaWQPut
import Derived.Test.YteecbgfbhppoiaaWApart
import Derived.Test.YteecbgfbhppoiaaWArr
import Derived.Test.YteecbgfbhppoiaaWZeros
import Derived.Test.YteecbgfbhppoiaaWFoot
import Derived.Test.YteecbgfbhppoiaaWKept
import Derived.Test.YteecbgfbhppoiaaWShare
import Derived.Test.YteecbgfbhppoiaaWN
import Derived.Test.YteecbgfbhppoiaaWFootNe
import Derived.Test.YteecbgfbhppoiaaWAt
import Derived.Test.YteecbgfbhppoiaaWEqStruct
import Derived.Test.YteecbgfbhppoiaaWRepsOne
import Derived.Test.YteecbgfbhppoiaaWInv
import Derived.Test.YteecbgfbhppoiaaWInvWords
import Derived.Test.YteecbgfbhppoiaaWGuard
import Derived.Test.YteecbgfbhppoiaaWNEv
import Derived.Test.YteecbgfbhppoiaaWMore
namespace Go.Proofs.Yteecbgfbhppoiaa.PCellArith
open Go.RowKit Go.Proofs.YteecbgfbhppoiaaW.PrintWords Go.Proofs.YteecbgfbhppoiaaW.PrintLast Go.Proofs.YteecbgfbhppoiaaW.PrintMore
attribute [local go_sem] max2_int min2_int max_two min_two max_three min_three max_four min_four   -- for this text's walks alone
set_option linter.unusedVariables false
set_option linter.unusedSimpArgs false



def errW : Option Int → Value
  | none => .nilIface
  | some c => .iface 0 (.int .i64 c)
theorem errW_none : errW none = .nilIface := rfl
theorem errW_some (c : Int) : errW (some c) = .iface 0 (.int .i64 c) := rfl

-- the values' own types

end Go.Proofs.Yteecbgfbhppoiaa.PCellArith
