/- Written by a program of this session (wip/pp.py) over the kit's printer, from the translation of the given program; Lean checks it. -/
import Derived.Test.YtoghmpdamflehaaProg
import Derived.Below
import Derived.Deep.Draws
import Derived.Deep.AppendLies
import Derived.Maps.AppendAt
import Derived.OwnWalk
import Derived.Laws.BytesArg
import Derived.Laws.MakeOwn
import Derived.Laws.OwnMore
import Derived.Deep.OwnRows
import Derived.Tactics
import Derived.Lib.ConvBytes
import Derived.Laws.Slices
import Derived.WalkKit
import Derived.KernelRfl
import Derived.RowKit3
import Derived.Deep.LoopGhost
import Derived.Deep.QuietTactic
import Derived.BigQuiet
import Derived.WideLaws
import Derived.Deep.DeepCutAuto
import Derived.Deep.CutBlock
import Derived.Deep.RegionHeld3
import Derived.Laws.Rows
import Derived.Lib.AppendStr
import Derived.ArgAppend
import Derived.Laws.IdiomCopy
import Derived.OrdersHeld
import Derived.Laws.BitsLemmas
import Derived.RowKit
import Derived.Lib.SliceRun
import Derived.Test.YtoghmpdamflehaaWWords
import Derived.Test.YtoghmpdamflehaaWLast
import Derived.Test.YtoghmpdamflehaaWTab
import Derived.Test.YtoghmpdamflehaaWFour
import Derived.Test.YtoghmpdamflehaaWQPut
import Derived.Test.YtoghmpdamflehaaWApart
import Derived.Test.YtoghmpdamflehaaWArr
import Derived.Test.YtoghmpdamflehaaWZeros
import Derived.Test.YtoghmpdamflehaaWFoot
import Derived.Test.YtoghmpdamflehaaWKept
import Derived.Test.YtoghmpdamflehaaWShare
import Derived.Test.YtoghmpdamflehaaWN
import Derived.Test.YtoghmpdamflehaaWFootNe
import Derived.Test.YtoghmpdamflehaaWAt
import Derived.Test.YtoghmpdamflehaaWEqStruct
import Derived.Test.YtoghmpdamflehaaWRepsOne
import Derived.Test.YtoghmpdamflehaaWInv
import Derived.Test.YtoghmpdamflehaaWInvWords
import Derived.Test.YtoghmpdamflehaaWGuard
import Derived.Test.YtoghmpdamflehaaWNEv
import Derived.Test.YtoghmpdamflehaaWMore
namespace Go.Proofs.Ytoghmpdamflehaa.P
open Go.RowKit Go.Proofs.YtoghmpdamflehaaW.PrintWords Go.Proofs.YtoghmpdamflehaaW.PrintLast Go.Proofs.YtoghmpdamflehaaW.PrintMore
attribute [local go_sem] max2_int min2_int max_two min_two max_three min_three max_four min_four   -- for this text's walks alone
set_option linter.unusedVariables false
set_option linter.unusedSimpArgs false



def errW : Option Int → Value
  | none => .nilIface
  | some c => .iface 0 (.int .i64 c)
theorem errW_none : errW none = .nilIface := rfl
theorem errW_some (c : Int) : errW (some c) = .iface 0 (.int .i64 c) := rfl

theorem info5 : (Try.prog.info? 5).map (fun i => (i.zero, i.size, i.bytes)) = some (some (.int .u8 0), 1, 1) := by kernel_rfl
-- the values' own types

end Go.Proofs.Ytoghmpdamflehaa.P
