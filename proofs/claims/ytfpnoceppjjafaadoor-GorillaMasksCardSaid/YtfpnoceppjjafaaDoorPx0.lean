/- Written by a program of this session (wip/pp.py) over the kit's printer, from the translation of the given program; Lean checks it. -/
import Derived.Test.YtfpnoceppjjafaaDoorProg
import Derived.Below
import Derived.Deep.Draws
import Derived.Deep.AppendLies
import Derived.Maps.AppendAt
import Derived.OwnWalk
import Derived.Laws.BytesArg
import Derived.Laws.MakeOwn
import Derived.Laws.OwnMore
import Derived.Deep.OwnRows
import Derived.Tactics
import Derived.Lib.ConvBytes
import Derived.Laws.Slices
import Derived.WalkKit
import Derived.KernelRfl
import Derived.RowKit3
import Derived.Deep.LoopGhost
import Derived.Deep.QuietTactic
import Derived.BigQuiet
import Derived.WideLaws
import Derived.Deep.DeepCutAuto
import Derived.Deep.CutBlock
import Derived.Deep.RegionHeld3
import Derived.Laws.Rows
import Derived.Lib.AppendStr
import Derived.ArgAppend
import Derived.Laws.IdiomCopy
import Derived.OrdersHeld
import Derived.Laws.BitsLemmas
import Derived.RowKit
import Derived.Lib.SliceRun
import Derived.Test.YtfpnoceppjjafaaDoorWWords
import Derived.Test.YtfpnoceppjjafaaDoorWLast
import Derived.Test.YtfpnoceppjjafaaDoorWTab
import Derived.Test.YtfpnoceppjjafaaDoorWFour
import Derived.Test.YtfpnoceppjjafaaDoorWQPut
import Derived.Test.YtfpnoceppjjafaaDoorWApart
import Derived.Test.YtfpnoceppjjafaaDoorWArr
import Derived.Test.YtfpnoceppjjafaaDoorWZeros
import Derived.Test.YtfpnoceppjjafaaDoorWFoot
import Derived.Test.YtfpnoceppjjafaaDoorWKept
import Derived.Test.YtfpnoceppjjafaaDoorWShare
import Derived.Test.YtfpnoceppjjafaaDoorWN
import Derived.Test.YtfpnoceppjjafaaDoorWFootNe
import Derived.Test.YtfpnoceppjjafaaDoorWAt
import Derived.Test.YtfpnoceppjjafaaDoorWEqStruct
import Derived.Test.YtfpnoceppjjafaaDoorWRepsOne
import Derived.Test.YtfpnoceppjjafaaDoorWInv
import Derived.Test.YtfpnoceppjjafaaDoorWInvWords
import Derived.Test.YtfpnoceppjjafaaDoorWGuard
import Derived.Test.YtfpnoceppjjafaaDoorWNEv
import Derived.Test.YtfpnoceppjjafaaDoorWMore
namespace Go.Proofs.YtfpnoceppjjafaaDoor.P
open Go.RowKit Go.Proofs.YtfpnoceppjjafaaDoorW.PrintWords Go.Proofs.YtfpnoceppjjafaaDoorW.PrintLast Go.Proofs.YtfpnoceppjjafaaDoorW.PrintMore
attribute [local go_sem] max2_int min2_int max_two min_two max_three min_three max_four min_four   -- for this text's walks alone
set_option linter.unusedVariables false
set_option linter.unusedSimpArgs false



def errW : Option Int → Value
  | none => .nilIface
  | some c => .iface 0 (.int .i64 c)
theorem errW_none : errW none = .nilIface := rfl
theorem errW_some (c : Int) : errW (some c) = .iface 0 (.int .i64 c) := rfl

theorem info3 : (Tryd.prog.info? 3).map (fun i => (i.zero, i.size, i.bytes)) = some (some (.int .i64 0), 1, 8) := by kernel_rfl
theorem info5 : (Tryd.prog.info? 5).map (fun i => (i.zero, i.size, i.bytes)) = some (some (.int .u8 0), 1, 1) := by kernel_rfl
theorem info35 : (Tryd.prog.info? 35).map (fun i => (i.zero, i.size, i.bytes)) = some (some (.int .u64 0), 1, 8) := by kernel_rfl
-- the values' own types

end Go.Proofs.YtfpnoceppjjafaaDoor.P
