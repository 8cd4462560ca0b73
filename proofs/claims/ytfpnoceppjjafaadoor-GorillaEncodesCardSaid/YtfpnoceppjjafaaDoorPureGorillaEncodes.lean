/- For every list of patterns: what Encode answers is what the document's Encode answers. No condition. -/
import Derived.Test.YtfpnoceppjjafaaDoorGl
import Derived.Test.YtfpnoceppjjafaaDoorRenc
import Derived.Test.YtfpnoceppjjafaaDoorPx10
namespace Go.Proofs.YtfpnoceppjjafaaDoor.Pure
open Go.RowKit Go.Proofs.YtfpnoceppjjafaaDoor.P Go.Proofs.YtfpnoceppjjafaaDoor.Kit Go.Proofs.YtfpnoceppjjafaaDoor.Var Go.Proofs.YtfpnoceppjjafaaDoorW.PrintWords Go.Proofs.YtfpnoceppjjafaaDoorW.PrintLast Go.Proofs.YtfpnoceppjjafaaDoorW.PrintMore
set_option linter.unusedVariables false
theorem GorillaEncodes : casketlaw09_GorillaEncodes.Pure := by
  intro l hm h8 hl
  have hu := u_of hl
  have hl1 : l.length < 140737488355328 := by omega
  refine Evn.get (g := fun k => casketlaw09_GorillaEncodes.f k l) ?_
  have tail : Evn (fun k => casketlaw09_GorillaEncodes.j0 k l true false) true := by
    refine Evn.round ?_
    simp only [casketlaw09_GorillaEncodes.j0]
    refine Evn.neg (by decide) (Evn.bindc (Enc_f hu hl1) (Evn.bindc (a := gEnc l) (if_pos ⟨hu, hl1⟩) (Evn.pos trivial (Evn.pos rfl (Evn.bind (Same1_self _ (by have := gEnc_len hu; omega)) (Evn.pure _))))))
  unfold casketlaw09_GorillaEncodes.f
  refine Evn.bind awake_ev ?_
  by_cases c0 : (l.length : Int) > 300
  · refine Evn.pos c0 ?_
    by_cases c1 : (l.length : Int) ≤ 65536
    · rw [decide_eq_true c1]
      refine Evn.round ?_
      simp only [casketlaw09_GorillaEncodes.j0]
      exact Evn.pos trivial (Evn.pure _)
    · rw [decide_eq_false c1]
      exact tail
  · exact Evn.neg c0 tail
end Go.Proofs.YtfpnoceppjjafaaDoor.Pure
