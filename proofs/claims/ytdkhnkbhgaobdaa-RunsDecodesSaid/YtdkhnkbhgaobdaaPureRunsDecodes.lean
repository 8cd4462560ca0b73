/- For all bytes (at most 300 are compared) and every number: runs.Decode answers as the document's Decode does. No condition. -/
import Derived.Test.YtdkhnkbhgaobdaaRunsL
import Derived.Test.YtdkhnkbhgaobdaaPx4
namespace Go.Proofs.Ytdkhnkbhgaobdaa.Pure
open Go.RowKit Go.Proofs.Ytdkhnkbhgaobdaa.P Go.Proofs.Ytdkhnkbhgaobdaa.Kit Go.Proofs.Ytdkhnkbhgaobdaa.Var Go.Proofs.Ytdkhnkbhgaobdaa.Runs Go.Proofs.YtdkhnkbhgaobdaaW.PrintWords Go.Proofs.YtdkhnkbhgaobdaaW.PrintLast Go.Proofs.YtdkhnkbhgaobdaaW.PrintMore
set_option linter.unusedVariables false
set_option linter.unusedSimpArgs false

theorem RunsDecodes : casketlaw07_RunsDecodes.Pure := by
  intro b n hm h1 hb hn
  have hby := bytes_of hb
  refine Evn.get (g := fun k => casketlaw07_RunsDecodes.f k b n) ?_
  unfold casketlaw07_RunsDecodes.f
  refine Evn.bind awake_ev ?_
  by_cases c0 : (b.length : Int) > 300
  · exact Evn.pos c0 (Evn.pure _)
  · refine Evn.neg c0 (Evn.bindc (Dec_f b n hby (by omega)) (Evn.bind (rDec_ev b n hby (by omega)) (Evn.pos rfl (Evn.pos rfl ?_))))
    have hlen := rdec_len b n hby
    exact Evn.bind (same_ev _ _ (by omega)) ((Evn.pure _).eq (by simp))

end Go.Proofs.Ytdkhnkbhgaobdaa.Pure
