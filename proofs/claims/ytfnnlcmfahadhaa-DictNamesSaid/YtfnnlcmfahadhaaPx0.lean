/- Written by a program of this session (wip/pp.py) over the kit's printer, from the translation of the given program; Lean checks it. -/
import Derived.Test.YtfnnlcmfahadhaaProg
import Derived.Below
import Derived.Deep.Draws
import Derived.Deep.AppendLies
import Derived.Maps.AppendAt
import Derived.OwnWalk
import Derived.Laws.BytesArg
import Derived.Laws.MakeOwn
import Derived.Laws.OwnMore
import Derived.Deep.OwnRows
import Derived.Tactics
import Derived.Lib.ConvBytes
import Derived.Laws.Slices
import Derived.WalkKit
import Derived.KernelRfl
import Derived.RowKit3
import Derived.Deep.LoopGhost
import Derived.Deep.QuietTactic
import Derived.BigQuiet
import Derived.WideLaws
import Derived.Deep.DeepCutAuto
import Derived.Deep.CutBlock
import Derived.Deep.RegionHeld3
import Derived.Laws.Rows
import Derived.Lib.AppendStr
import Derived.ArgAppend
import Derived.Laws.IdiomCopy
import Derived.OrdersHeld
import Derived.Laws.BitsLemmas
import Derived.RowKit
import Derived.Lib.SliceRun
import Derived.Test.YtfnnlcmfahadhaaWWords
import Derived.Test.YtfnnlcmfahadhaaWLast
import Derived.Test.YtfnnlcmfahadhaaWTab
import Derived.Test.YtfnnlcmfahadhaaWFour
import Derived.Test.YtfnnlcmfahadhaaWQPut
import Derived.Test.YtfnnlcmfahadhaaWApart
import Derived.Test.YtfnnlcmfahadhaaWArr
import Derived.Test.YtfnnlcmfahadhaaWZeros
import Derived.Test.YtfnnlcmfahadhaaWFoot
import Derived.Test.YtfnnlcmfahadhaaWKept
import Derived.Test.YtfnnlcmfahadhaaWShare
import Derived.Test.YtfnnlcmfahadhaaWN
import Derived.Test.YtfnnlcmfahadhaaWFootNe
import Derived.Test.YtfnnlcmfahadhaaWAt
import Derived.Test.YtfnnlcmfahadhaaWEqStruct
import Derived.Test.YtfnnlcmfahadhaaWRepsOne
import Derived.Test.YtfnnlcmfahadhaaWInv
import Derived.Test.YtfnnlcmfahadhaaWInvWords
import Derived.Test.YtfnnlcmfahadhaaWGuard
import Derived.Test.YtfnnlcmfahadhaaWNEv
import Derived.Test.YtfnnlcmfahadhaaWMore
namespace Go.Proofs.Ytfnnlcmfahadhaa.P
open Go.RowKit Go.Proofs.YtfnnlcmfahadhaaW.PrintWords Go.Proofs.YtfnnlcmfahadhaaW.PrintLast Go.Proofs.YtfnnlcmfahadhaaW.PrintMore
attribute [local go_sem] max2_int min2_int max_two min_two max_three min_three max_four min_four   -- for this text's walks alone
set_option linter.unusedVariables false
set_option linter.unusedSimpArgs false



def errW : Option Int → Value
  | none => .nilIface
  | some c => .iface 0 (.int .i64 c)
theorem errW_none : errW none = .nilIface := rfl
theorem errW_some (c : Int) : errW (some c) = .iface 0 (.int .i64 c) := rfl

theorem info3 : (Try.prog.info? 3).map (fun i => (i.zero, i.size, i.bytes)) = some (some (.int .i64 0), 1, 8) := by kernel_rfl
theorem info5 : (Try.prog.info? 5).map (fun i => (i.zero, i.size, i.bytes)) = some (some (.int .u8 0), 1, 1) := by kernel_rfl
theorem info35 : (Try.prog.info? 35).map (fun i => (i.zero, i.size, i.bytes)) = some (some (.int .u64 0), 1, 8) := by kernel_rfl
-- the values' own types

end Go.Proofs.Ytfnnlcmfahadhaa.P
