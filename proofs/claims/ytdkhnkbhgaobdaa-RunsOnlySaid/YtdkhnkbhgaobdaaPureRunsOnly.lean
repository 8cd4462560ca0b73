/- For all bytes (at most 300 are looked at) and every number: what runs.Decode reads, runs.Encode writes as just these bytes. No condition. -/
import Derived.Test.YtdkhnkbhgaobdaaRunsL
import Derived.Test.YtdkhnkbhgaobdaaPx4
namespace Go.Proofs.Ytdkhnkbhgaobdaa.Pure
open Go.RowKit Go.Proofs.Ytdkhnkbhgaobdaa.P Go.Proofs.Ytdkhnkbhgaobdaa.Kit Go.Proofs.Ytdkhnkbhgaobdaa.Var Go.Proofs.Ytdkhnkbhgaobdaa.Runs Go.Proofs.YtdkhnkbhgaobdaaW.PrintWords Go.Proofs.YtdkhnkbhgaobdaaW.PrintLast Go.Proofs.YtdkhnkbhgaobdaaW.PrintMore
set_option linter.unusedVariables false
set_option linter.unusedSimpArgs false

theorem RunsOnly : casketlaw07_RunsOnly.Pure := by
  intro b n hm h1 hb hn
  have hby := bytes_of hb
  refine Evn.get (g := fun k => casketlaw07_RunsOnly.f k b n) ?_
  unfold casketlaw07_RunsOnly.f
  refine Evn.bind awake_ev ?_
  by_cases c0 : (b.length : Int) > 300
  · exact Evn.pos c0 (Evn.pure _)
  · refine Evn.neg c0 (Evn.bindc (Dec_f b n hby (by omega)) ?_)
    by_cases c1 : (rdec b n).2 = 0
    · obtain ⟨e, hu, hl, h65⟩ := rdec_only b n hby (rdec b n).1 (Prod.ext_iff.mpr ⟨rfl, c1⟩)
      refine Evn.pos c1 (Evn.bind (Enc_ev _ hu (by omega)) (Evn.pos (by trivial) (Evn.pos hl (Evn.pos (by trivial) ?_))))
      rw [← e]
      exact Evn.bind (Same_self b (by omega)) (Evn.pure _)
    · refine Evn.neg c1 (Evn.pos (by trivial) ?_)
      rw [rdec_err b n c1]
      exact Evn.pure _

end Go.Proofs.Ytdkhnkbhgaobdaa.Pure
