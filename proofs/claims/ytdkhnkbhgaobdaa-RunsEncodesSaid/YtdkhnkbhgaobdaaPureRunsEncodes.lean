/- For all lists of numbers: runs.Encode answers as the document's Encode does, beside the lists of 601 to 65536 numbers. No condition. -/
import Derived.Test.YtdkhnkbhgaobdaaRunsL
import Derived.Test.YtdkhnkbhgaobdaaPx2
namespace Go.Proofs.Ytdkhnkbhgaobdaa.Pure
open Go.RowKit Go.Proofs.Ytdkhnkbhgaobdaa.P Go.Proofs.Ytdkhnkbhgaobdaa.Kit Go.Proofs.Ytdkhnkbhgaobdaa.Var Go.Proofs.Ytdkhnkbhgaobdaa.Runs Go.Proofs.YtdkhnkbhgaobdaaW.PrintWords Go.Proofs.YtdkhnkbhgaobdaaW.PrintLast Go.Proofs.YtdkhnkbhgaobdaaW.PrintMore
set_option linter.unusedVariables false
set_option linter.unusedSimpArgs false

theorem RunsEncodes : casketlaw07_RunsEncodes.Pure := by
  intro l hm h8 hl
  have hu := us_of hl
  refine Evn.get (g := fun k => casketlaw07_RunsEncodes.f k l) ?_
  unfold casketlaw07_RunsEncodes.f
  refine Evn.bind awake_ev ?_
  by_cases c0 : (l.length : Int) > 600
  · refine Evn.pos c0 (Evn.round ?_)
    simp only [casketlaw07_RunsEncodes.j0]
    by_cases c1 : l.length ≤ 65536
    · exact Evn.pos (by simp; omega) (Evn.pure _)
    · refine Evn.neg (by simp; omega) (Evn.bind (Enc_long l (by omega)) (Evn.bind (rEnc_long l (by omega)) (Evn.pos (by trivial) (Evn.pos (by trivial) ?_))))
      exact Evn.bind (Same_self [] (by simp)) (Evn.pure _)
  · refine Evn.neg c0 (Evn.round ?_)
    simp only [casketlaw07_RunsEncodes.j0]
    have := enc_length l 0 hu (by omega)
    refine Evn.neg (by simp) (Evn.bind (Enc_ev l hu (by omega)) (Evn.bind (rEnc_ev l hu (by omega)) (Evn.pos (by trivial) (Evn.pos (by trivial) ?_))))
    exact Evn.bind (Same_self (enc 0 l) (by omega)) (Evn.pure _)

end Go.Proofs.Ytdkhnkbhgaobdaa.Pure
