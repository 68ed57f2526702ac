-- made by wip/xprint (a program of this session, over the kit's print)
import Derived.Test.YtmoojmbblgbniaaProg
import Derived.Below
import Derived.Deep.Draws
import Derived.Deep.AppendLies
import Derived.Maps.AppendAt
import Derived.OwnWalk
import Derived.Laws.BytesArg
import Derived.Laws.MakeOwn
import Derived.Laws.OwnMore
import Derived.Deep.OwnRows
import Derived.Tactics
import Derived.Lib.ConvBytes
import Derived.Laws.Slices
import Derived.WalkKit
import Derived.KernelRfl
import Derived.RowKit3
import Derived.Deep.LoopGhost
import Derived.Deep.QuietTactic
import Derived.BigQuiet
import Derived.WideLaws
import Derived.Deep.DeepCutAuto
import Derived.Deep.CutBlock
import Derived.Deep.RegionHeld3
import Derived.Laws.Rows
import Derived.Lib.AppendStr
import Derived.ArgAppend
import Derived.Laws.IdiomCopy
import Derived.OrdersHeld
import Derived.Laws.BitsLemmas
import Derived.RowKit
import Derived.Test.YtmoojmbblgbniaaWWords
import Derived.Test.YtmoojmbblgbniaaWLast
import Derived.Test.YtmoojmbblgbniaaWTab
import Derived.Test.YtmoojmbblgbniaaWFour
import Derived.Test.YtmoojmbblgbniaaWQPut
import Derived.Test.YtmoojmbblgbniaaWApart
import Derived.Test.YtmoojmbblgbniaaWArr
import Derived.Test.YtmoojmbblgbniaaWZeros
import Derived.Test.YtmoojmbblgbniaaWFoot
import Derived.Test.YtmoojmbblgbniaaWKept
import Derived.Test.YtmoojmbblgbniaaWShare
import Derived.Test.YtmoojmbblgbniaaWN
import Derived.Test.YtmoojmbblgbniaaWFootNe
import Derived.Test.YtmoojmbblgbniaaWAt
import Derived.Test.YtmoojmbblgbniaaWEqStruct
import Derived.Test.YtmoojmbblgbniaaWRepsOne
import Derived.Test.YtmoojmbblgbniaaWInv
import Derived.Test.YtmoojmbblgbniaaWInvWords
import Derived.Test.YtmoojmbblgbniaaWGuard
import Derived.Test.YtmoojmbblgbniaaWNEv
import Derived.Test.YtmoojmbblgbniaaWMore
namespace Go.Proofs.Ytmoojmbblgbniaa.PPacketTells
open Go.RowKit Go.Proofs.YtmoojmbblgbniaaW.PrintWords Go.Proofs.YtmoojmbblgbniaaW.PrintLast Go.Proofs.YtmoojmbblgbniaaW.PrintMore
attribute [local go_sem] max2_int min2_int max_two min_two max_three min_three max_four min_four   -- for this text's walks alone
set_option linter.unusedVariables false
set_option linter.unusedSimpArgs false



def errW : Option Int → Value
  | none => .nilIface
  | some c => .iface 0 (.int .i64 c)
theorem errW_none : errW none = .nilIface := rfl
theorem errW_some (c : Int) : errW (some c) = .iface 0 (.int .i64 c) := rfl

theorem info5 : (Try.prog.info? 5).map (fun i => (i.zero, i.size, i.bytes)) = some (some (.int .u8 0), 1, 1) := by kernel_rfl
theorem info22 : (Try.prog.info? 22).map (fun i => (i.zero, i.size, i.bytes)) = some (some (.int .u32 0), 1, 4) := by kernel_rfl
-- the values' own types

end Go.Proofs.Ytmoojmbblgbniaa.PPacketTells
