-- Printed by a program of this workplace (a turned printer): functions, and proofs that the calls come to them.
import Derived.Test.YtpelpbhllojaiaaProg
import Derived.Below
import Derived.Deep.Draws
import Derived.Deep.AppendLies
import Derived.Maps.AppendAt
import Derived.OwnWalk
import Derived.Laws.BytesArg
import Derived.Laws.MakeOwn
import Derived.Laws.OwnMore
import Derived.Deep.OwnRows
import Derived.Tactics
import Derived.Lib.ConvBytes
import Derived.Laws.Slices
import Derived.WalkKit
import Derived.KernelRfl
import Derived.RowKit3
import Derived.Deep.LoopGhost
import Derived.Deep.QuietTactic
import Derived.BigQuiet
import Derived.WideLaws
import Derived.Deep.DeepCutAuto
import Derived.Deep.CutBlock
import Derived.Deep.RegionHeld3
import Derived.Laws.Rows
import Derived.Lib.AppendStr
import Derived.ArgAppend
import Derived.Laws.IdiomCopy
import Derived.OrdersHeld
import Derived.Laws.BitsLemmas
import Derived.RowKit
import Derived.Test.YtpelpbhllojaiaaWWords
import Derived.Test.YtpelpbhllojaiaaWLast
import Derived.Test.YtpelpbhllojaiaaWTab
import Derived.Test.YtpelpbhllojaiaaWFour
import Derived.Test.YtpelpbhllojaiaaWQPut
import Derived.Test.YtpelpbhllojaiaaWApart
import Derived.Test.YtpelpbhllojaiaaWArr
import Derived.Test.YtpelpbhllojaiaaWZeros
import Derived.Test.YtpelpbhllojaiaaWFoot
import Derived.Test.YtpelpbhllojaiaaWKept
import Derived.Test.YtpelpbhllojaiaaWShare
import Derived.Test.YtpelpbhllojaiaaWN
import Derived.Test.YtpelpbhllojaiaaWFootNe
import Derived.Test.YtpelpbhllojaiaaWAt
import Derived.Test.YtpelpbhllojaiaaWEqStruct
import Derived.Test.YtpelpbhllojaiaaWRepsOne
import Derived.Test.YtpelpbhllojaiaaWInv
import Derived.Test.YtpelpbhllojaiaaWInvWords
import Derived.Test.YtpelpbhllojaiaaWGuard
import Derived.Test.YtpelpbhllojaiaaWNEv
import Derived.Test.YtpelpbhllojaiaaWMore
import Derived.Test.YtpelpbhllojaiaaExt
namespace Go.Proofs.Ytpelpbhllojaiaa.PA
open Go.RowKit Go.Proofs.YtpelpbhllojaiaaW.PrintWords Go.Proofs.YtpelpbhllojaiaaW.PrintLast Go.Proofs.YtpelpbhllojaiaaW.PrintMore
attribute [local go_sem] max2_int min2_int max_two min_two max_three min_three max_four min_four   -- for this text's walks alone
set_option linter.unusedVariables false
set_option linter.unusedSimpArgs false



def errW : Option Int → Value
  | none => .nilIface
  | some c => .iface 0 (.int .i64 c)
theorem errW_none : errW none = .nilIface := rfl
theorem errW_some (c : Int) : errW (some c) = .iface 0 (.int .i64 c) := rfl

theorem info21 : (Try.prog.info? 21).map (fun i => (i.zero, i.size, i.bytes)) = some (some (.int .i32 0), 1, 4) := by kernel_rfl
-- the values' own types

end Go.Proofs.Ytpelpbhllojaiaa.PA
