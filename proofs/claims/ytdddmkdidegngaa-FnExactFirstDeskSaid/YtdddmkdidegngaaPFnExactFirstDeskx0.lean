-- Made by this session's own program (gp) out of the translation; Lean checks it.
import Derived.Test.YtdddmkdidegngaaProg
import Derived.Below
import Derived.Deep.Draws
import Derived.Deep.AppendLies
import Derived.Maps.AppendAt
import Derived.OwnWalk
import Derived.Laws.BytesArg
import Derived.Laws.MakeOwn
import Derived.Laws.OwnMore
import Derived.Deep.OwnRows
import Derived.Tactics
import Derived.Lib.ConvBytes
import Derived.Laws.Slices
import Derived.WalkKit
import Derived.KernelRfl
import Derived.RowKit3
import Derived.Deep.LoopGhost
import Derived.Deep.QuietTactic
import Derived.BigQuiet
import Derived.WideLaws
import Derived.Deep.DeepCutAuto
import Derived.Deep.CutBlock
import Derived.Deep.RegionHeld3
import Derived.Laws.Rows
import Derived.Lib.AppendStr
import Derived.ArgAppend
import Derived.Laws.IdiomCopy
import Derived.OrdersHeld
import Derived.Laws.BitsLemmas
import Derived.RowKit
import Derived.Test.YtdddmkdidegngaaWWords
import Derived.Test.YtdddmkdidegngaaWLast
import Derived.Test.YtdddmkdidegngaaWTab
import Derived.Test.YtdddmkdidegngaaWFour
import Derived.Test.YtdddmkdidegngaaWQPut
import Derived.Test.YtdddmkdidegngaaWApart
import Derived.Test.YtdddmkdidegngaaWArr
import Derived.Test.YtdddmkdidegngaaWZeros
import Derived.Test.YtdddmkdidegngaaWFoot
import Derived.Test.YtdddmkdidegngaaWKept
import Derived.Test.YtdddmkdidegngaaWShare
import Derived.Test.YtdddmkdidegngaaWN
import Derived.Test.YtdddmkdidegngaaWFootNe
import Derived.Test.YtdddmkdidegngaaWAt
import Derived.Test.YtdddmkdidegngaaWEqStruct
import Derived.Test.YtdddmkdidegngaaWRepsOne
import Derived.Test.YtdddmkdidegngaaWInv
import Derived.Test.YtdddmkdidegngaaWInvWords
import Derived.Test.YtdddmkdidegngaaWGuard
import Derived.Test.YtdddmkdidegngaaWNEv
import Derived.Test.YtdddmkdidegngaaWMore
namespace Go.Proofs.Ytdddmkdidegngaa.PFnExactFirstDesk
open Go.RowKit Go.Proofs.YtdddmkdidegngaaW.PrintWords Go.Proofs.YtdddmkdidegngaaW.PrintLast Go.Proofs.YtdddmkdidegngaaW.PrintMore
attribute [local go_sem] max2_int min2_int max_two min_two max_three min_three max_four min_four   -- for this text's walks alone
set_option linter.unusedVariables false
set_option linter.unusedSimpArgs false



def errW : Option Int → Value
  | none => .nilIface
  | some c => .iface 0 (.int .i64 c)
theorem errW_none : errW none = .nilIface := rfl
theorem errW_some (c : Int) : errW (some c) = .iface 0 (.int .i64 c) := rfl

theorem info3 : (Try.prog.info? 3).map (fun i => (i.zero, i.size, i.bytes)) = some (some (.int .i64 0), 1, 8) := by kernel_rfl
-- the values' own types

end Go.Proofs.Ytdddmkdidegngaa.PFnExactFirstDesk
