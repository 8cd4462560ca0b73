/- Written by a program of this session (wip/pp.py) over the kit's printer, from the translation of the given program; Lean checks it. -/
import Derived.Test.YtlpejnkpkcnkmaaProg
import Derived.Below
import Derived.Deep.Draws
import Derived.Deep.AppendLies
import Derived.Maps.AppendAt
import Derived.OwnWalk
import Derived.Laws.BytesArg
import Derived.Laws.MakeOwn
import Derived.Laws.OwnMore
import Derived.Deep.OwnRows
import Derived.Tactics
import Derived.Lib.ConvBytes
import Derived.Laws.Slices
import Derived.WalkKit
import Derived.KernelRfl
import Derived.RowKit3
import Derived.Deep.LoopGhost
import Derived.Deep.QuietTactic
import Derived.BigQuiet
import Derived.WideLaws
import Derived.Deep.DeepCutAuto
import Derived.Deep.CutBlock
import Derived.Deep.RegionHeld3
import Derived.Laws.Rows
import Derived.Lib.AppendStr
import Derived.ArgAppend
import Derived.Laws.IdiomCopy
import Derived.OrdersHeld
import Derived.Laws.BitsLemmas
import Derived.RowKit
import Derived.Lib.SliceRun
import Derived.Test.YtlpejnkpkcnkmaaWWords
import Derived.Test.YtlpejnkpkcnkmaaWLast
import Derived.Test.YtlpejnkpkcnkmaaWTab
import Derived.Test.YtlpejnkpkcnkmaaWFour
import Derived.Test.YtlpejnkpkcnkmaaWQPut
import Derived.Test.YtlpejnkpkcnkmaaWApart
import Derived.Test.YtlpejnkpkcnkmaaWArr
import Derived.Test.YtlpejnkpkcnkmaaWZeros
import Derived.Test.YtlpejnkpkcnkmaaWFoot
import Derived.Test.YtlpejnkpkcnkmaaWKept
import Derived.Test.YtlpejnkpkcnkmaaWShare
import Derived.Test.YtlpejnkpkcnkmaaWN
import Derived.Test.YtlpejnkpkcnkmaaWFootNe
import Derived.Test.YtlpejnkpkcnkmaaWAt
import Derived.Test.YtlpejnkpkcnkmaaWEqStruct
import Derived.Test.YtlpejnkpkcnkmaaWRepsOne
import Derived.Test.YtlpejnkpkcnkmaaWInv
import Derived.Test.YtlpejnkpkcnkmaaWInvWords
import Derived.Test.YtlpejnkpkcnkmaaWGuard
import Derived.Test.YtlpejnkpkcnkmaaWNEv
import Derived.Test.YtlpejnkpkcnkmaaWMore
namespace Go.Proofs.Ytlpejnkpkcnkmaa.P
open Go.RowKit Go.Proofs.YtlpejnkpkcnkmaaW.PrintWords Go.Proofs.YtlpejnkpkcnkmaaW.PrintLast Go.Proofs.YtlpejnkpkcnkmaaW.PrintMore
attribute [local go_sem] max2_int min2_int max_two min_two max_three min_three max_four min_four   -- for this text's walks alone
set_option linter.unusedVariables false
set_option linter.unusedSimpArgs false



def errW : Option Int → Value
  | none => .nilIface
  | some c => .iface 0 (.int .i64 c)
theorem errW_none : errW none = .nilIface := rfl
theorem errW_some (c : Int) : errW (some c) = .iface 0 (.int .i64 c) := rfl

theorem info3 : (Try.prog.info? 3).map (fun i => (i.zero, i.size, i.bytes)) = some (some (.int .i64 0), 1, 8) := by kernel_rfl
-- the values' own types

end Go.Proofs.Ytlpejnkpkcnkmaa.P
