-- Written by a program: a turned copy of the print tool.
import Derived.Test.YtdpoifaeimmdmaaProg
import Derived.Below
import Derived.Deep.Draws
import Derived.Deep.AppendLies
import Derived.Maps.AppendAt
import Derived.OwnWalk
import Derived.Laws.BytesArg
import Derived.Laws.MakeOwn
import Derived.Laws.OwnMore
import Derived.Deep.OwnRows
import Derived.Tactics
import Derived.Lib.ConvBytes
import Derived.Laws.Slices
import Derived.WalkKit
import Derived.KernelRfl
import Derived.RowKit3
import Derived.Deep.LoopGhost
import Derived.Deep.QuietTactic
import Derived.BigQuiet
import Derived.WideLaws
import Derived.Deep.DeepCutAuto
import Derived.Deep.CutBlock
import Derived.Deep.RegionHeld3
import Derived.Laws.Rows
import Derived.Lib.AppendStr
import Derived.ArgAppend
import Derived.Laws.IdiomCopy
import Derived.OrdersHeld
import Derived.Laws.BitsLemmas
import Derived.RowKit
import Derived.Test.YtdpoifaeimmdmaaWWords
import Derived.Test.YtdpoifaeimmdmaaWLast
import Derived.Test.YtdpoifaeimmdmaaWTab
import Derived.Test.YtdpoifaeimmdmaaWFour
import Derived.Test.YtdpoifaeimmdmaaWQPut
import Derived.Test.YtdpoifaeimmdmaaWApart
import Derived.Test.YtdpoifaeimmdmaaWArr
import Derived.Test.YtdpoifaeimmdmaaWZeros
import Derived.Test.YtdpoifaeimmdmaaWFoot
import Derived.Test.YtdpoifaeimmdmaaWKept
import Derived.Test.YtdpoifaeimmdmaaWShare
import Derived.Test.YtdpoifaeimmdmaaWN
import Derived.Test.YtdpoifaeimmdmaaWFootNe
import Derived.Test.YtdpoifaeimmdmaaWAt
import Derived.Test.YtdpoifaeimmdmaaWEqStruct
import Derived.Test.YtdpoifaeimmdmaaWRepsOne
import Derived.Test.YtdpoifaeimmdmaaWInv
import Derived.Test.YtdpoifaeimmdmaaWInvWords
import Derived.Test.YtdpoifaeimmdmaaWGuard
import Derived.Test.YtdpoifaeimmdmaaWNEv
import Derived.Test.YtdpoifaeimmdmaaWMore
namespace Go.Proofs.Ytdpoifaeimmdmaa.PSumPlays
open Go.RowKit Go.Proofs.YtdpoifaeimmdmaaW.PrintWords Go.Proofs.YtdpoifaeimmdmaaW.PrintLast Go.Proofs.YtdpoifaeimmdmaaW.PrintMore
attribute [local go_sem] max2_int min2_int max_two min_two max_three min_three max_four min_four   -- for this text's walks alone
set_option linter.unusedVariables false
set_option linter.unusedSimpArgs false
set_option maxRecDepth 100000



def errW : Option Int → Value
  | none => .nilIface
  | some c => .iface 0 (.int .i64 c)
theorem errW_none : errW none = .nilIface := rfl
theorem errW_some (c : Int) : errW (some c) = .iface 0 (.int .i64 c) := rfl

theorem info5 : (Try.prog.info? 5).map (fun i => (i.zero, i.size, i.bytes)) = some (some (.int .u8 0), 1, 1) := by kernel_rfl
-- the values' own types

end Go.Proofs.Ytdpoifaeimmdmaa.PSumPlays
