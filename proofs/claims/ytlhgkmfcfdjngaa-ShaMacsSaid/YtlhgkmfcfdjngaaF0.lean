-- WRITTEN BY A PROGRAM OF THIS PLACE (wip/tools/pp.sh: the print, turned for functions proved by hand). Lean checks it.
import Derived.Test.YtlhgkmfcfdjngaaProg
import Derived.Below
import Derived.Deep.Draws
import Derived.Deep.AppendLies
import Derived.Maps.AppendAt
import Derived.OwnWalk
import Derived.Laws.BytesArg
import Derived.Laws.MakeOwn
import Derived.Laws.OwnMore
import Derived.Deep.OwnRows
import Derived.Tactics
import Derived.Lib.ConvBytes
import Derived.Laws.Slices
import Derived.WalkKit
import Derived.KernelRfl
import Derived.RowKit3
import Derived.Deep.LoopGhost
import Derived.Deep.QuietTactic
import Derived.BigQuiet
import Derived.WideLaws
import Derived.Deep.DeepCutAuto
import Derived.Deep.CutBlock
import Derived.Deep.RegionHeld3
import Derived.Laws.Rows
import Derived.Lib.AppendStr
import Derived.ArgAppend
import Derived.Laws.IdiomCopy
import Derived.OrdersHeld
import Derived.Laws.BitsLemmas
import Derived.RowKit
import Derived.Test.YtlhgkmfcfdjngaaWWords
import Derived.Test.YtlhgkmfcfdjngaaWLast
import Derived.Test.YtlhgkmfcfdjngaaWTab
import Derived.Test.YtlhgkmfcfdjngaaWFour
import Derived.Test.YtlhgkmfcfdjngaaWQPut
import Derived.Test.YtlhgkmfcfdjngaaWApart
import Derived.Test.YtlhgkmfcfdjngaaWArr
import Derived.Test.YtlhgkmfcfdjngaaWZeros
import Derived.Test.YtlhgkmfcfdjngaaWFoot
import Derived.Test.YtlhgkmfcfdjngaaWKept
import Derived.Test.YtlhgkmfcfdjngaaWShare
import Derived.Test.YtlhgkmfcfdjngaaWN
import Derived.Test.YtlhgkmfcfdjngaaWFootNe
import Derived.Test.YtlhgkmfcfdjngaaWAt
import Derived.Test.YtlhgkmfcfdjngaaWEqStruct
import Derived.Test.YtlhgkmfcfdjngaaWRepsOne
import Derived.Test.YtlhgkmfcfdjngaaWInv
import Derived.Test.YtlhgkmfcfdjngaaWInvWords
import Derived.Test.YtlhgkmfcfdjngaaWGuard
import Derived.Test.YtlhgkmfcfdjngaaWNEv
import Derived.Test.YtlhgkmfcfdjngaaWMore
namespace Go.Proofs.Ytlhgkmfcfdjngaa.F
open Go.RowKit Go.Proofs.YtlhgkmfcfdjngaaW.PrintWords Go.Proofs.YtlhgkmfcfdjngaaW.PrintLast Go.Proofs.YtlhgkmfcfdjngaaW.PrintMore
attribute [local go_sem] max2_int min2_int max_two min_two max_three min_three max_four min_four   -- for this text's walks alone
set_option linter.unusedVariables false
set_option linter.unusedSimpArgs false



def errW : Option Int → Value
  | none => .nilIface
  | some c => .iface 0 (.int .i64 c)
theorem errW_none : errW none = .nilIface := rfl
theorem errW_some (c : Int) : errW (some c) = .iface 0 (.int .i64 c) := rfl

theorem info5 : (Try.prog.info? 5).map (fun i => (i.zero, i.size, i.bytes)) = some (some (.int .u8 0), 1, 1) := by kernel_rfl
theorem info31 : (Try.prog.info? 31).map (fun i => (i.zero, i.size, i.bytes)) = some (some (.int .u32 0), 1, 4) := by kernel_rfl
-- the values' own types

end Go.Proofs.Ytlhgkmfcfdjngaa.F
