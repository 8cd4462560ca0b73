/- Written by a program of this session (wip/pp.py) over the kit's printer, from the translation of the given program; Lean checks it. -/
import Derived.Test.YtmmghnplgpncdaaProg
import Derived.Below
import Derived.Deep.Draws
import Derived.Deep.AppendLies
import Derived.Maps.AppendAt
import Derived.OwnWalk
import Derived.Laws.BytesArg
import Derived.Laws.MakeOwn
import Derived.Laws.OwnMore
import Derived.Deep.OwnRows
import Derived.Tactics
import Derived.Lib.ConvBytes
import Derived.Laws.Slices
import Derived.WalkKit
import Derived.KernelRfl
import Derived.RowKit3
import Derived.Deep.LoopGhost
import Derived.Deep.QuietTactic
import Derived.BigQuiet
import Derived.WideLaws
import Derived.Deep.DeepCutAuto
import Derived.Deep.CutBlock
import Derived.Deep.RegionHeld3
import Derived.Laws.Rows
import Derived.Lib.AppendStr
import Derived.ArgAppend
import Derived.Laws.IdiomCopy
import Derived.OrdersHeld
import Derived.Laws.BitsLemmas
import Derived.RowKit
import Derived.Lib.SliceRun
import Derived.Test.YtmmghnplgpncdaaWWords
import Derived.Test.YtmmghnplgpncdaaWLast
import Derived.Test.YtmmghnplgpncdaaWTab
import Derived.Test.YtmmghnplgpncdaaWFour
import Derived.Test.YtmmghnplgpncdaaWQPut
import Derived.Test.YtmmghnplgpncdaaWApart
import Derived.Test.YtmmghnplgpncdaaWArr
import Derived.Test.YtmmghnplgpncdaaWZeros
import Derived.Test.YtmmghnplgpncdaaWFoot
import Derived.Test.YtmmghnplgpncdaaWKept
import Derived.Test.YtmmghnplgpncdaaWShare
import Derived.Test.YtmmghnplgpncdaaWN
import Derived.Test.YtmmghnplgpncdaaWFootNe
import Derived.Test.YtmmghnplgpncdaaWAt
import Derived.Test.YtmmghnplgpncdaaWEqStruct
import Derived.Test.YtmmghnplgpncdaaWRepsOne
import Derived.Test.YtmmghnplgpncdaaWInv
import Derived.Test.YtmmghnplgpncdaaWInvWords
import Derived.Test.YtmmghnplgpncdaaWGuard
import Derived.Test.YtmmghnplgpncdaaWNEv
import Derived.Test.YtmmghnplgpncdaaWMore
namespace Go.Proofs.Ytmmghnplgpncdaa.P
open Go.RowKit Go.Proofs.YtmmghnplgpncdaaW.PrintWords Go.Proofs.YtmmghnplgpncdaaW.PrintLast Go.Proofs.YtmmghnplgpncdaaW.PrintMore
attribute [local go_sem] max2_int min2_int max_two min_two max_three min_three max_four min_four   -- for this text's walks alone
set_option linter.unusedVariables false
set_option linter.unusedSimpArgs false



def errW : Option Int → Value
  | none => .nilIface
  | some c => .iface 0 (.int .i64 c)
theorem errW_none : errW none = .nilIface := rfl
theorem errW_some (c : Int) : errW (some c) = .iface 0 (.int .i64 c) := rfl

theorem info5 : (Try.prog.info? 5).map (fun i => (i.zero, i.size, i.bytes)) = some (some (.int .u8 0), 1, 1) := by kernel_rfl
-- the values' own types

end Go.Proofs.Ytmmghnplgpncdaa.P
