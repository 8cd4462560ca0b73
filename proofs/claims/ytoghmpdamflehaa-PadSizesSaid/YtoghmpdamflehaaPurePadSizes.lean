/- For every two numbers: pad.Size and pad.Bucket answer as the document does. No condition. -/
import Derived.Test.YtoghmpdamflehaaPadL
import Derived.Test.YtoghmpdamflehaaPx3
namespace Go.Proofs.Ytoghmpdamflehaa.Pure
open Go.RowKit Go.Proofs.Ytoghmpdamflehaa.P Go.Proofs.Ytoghmpdamflehaa.Kit Go.Proofs.Ytoghmpdamflehaa.Var Go.Proofs.Ytoghmpdamflehaa.PadL Go.Proofs.YtoghmpdamflehaaW.PrintWords Go.Proofs.YtoghmpdamflehaaW.PrintLast Go.Proofs.YtoghmpdamflehaaW.PrintMore
set_option linter.unusedVariables false
set_option linter.unusedSimpArgs false

theorem rBucket_any (n : Int) (h0 : n ≤ 9223372036854775807) : Evn (fun k => casketref19_Bucket.f k n) (bucketP n) := by
  by_cases c : n < 140737488355328
  · exact rBucket_ev n c
  · unfold casketref19_Bucket.f
    refine Evn.neg (by omega) (Evn.pos (by omega) ?_)
    rw [bucket_long n (by omega)]
    exact Evn.pure _
theorem PadSizes : casketlaw19_PadSizes.Pure := by
  intro k n hk hn
  refine Evn.get (g := fun f => casketlaw19_PadSizes.f f k n) ?_
  unfold casketlaw19_PadSizes.f
  refine Evn.bindc awake_f (Evn.bindc (a := bucketP n) rfl (Evn.bind (rBucket_any n (wf64 hn).2) (Evn.pos (by trivial) (Evn.bindc (a := sizeP k) rfl (Evn.bind (rSize_ev k) (Evn.pos rfl (Evn.pos rfl ?_)))))))
  exact (Evn.pure _).eq (by simp)
end Go.Proofs.Ytoghmpdamflehaa.Pure
