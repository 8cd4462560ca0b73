/- For all lists of numbers: what is encoded is what the document says. No condition. -/
import Derived.Test.YtfnnlcmfahadhaaDicL
import Derived.Test.YtfnnlcmfahadhaaPx10
namespace Go.Proofs.Ytfnnlcmfahadhaa.Pure
open Go.RowKit Go.Proofs.Ytfnnlcmfahadhaa.P Go.Proofs.Ytfnnlcmfahadhaa.Kit Go.Proofs.Ytfnnlcmfahadhaa.Var Go.Proofs.Ytfnnlcmfahadhaa.DicP Go.Proofs.YtfnnlcmfahadhaaW.PrintWords Go.Proofs.YtfnnlcmfahadhaaW.PrintLast Go.Proofs.YtfnnlcmfahadhaaW.PrintMore
set_option linter.unusedVariables false
theorem DictEncodes : casketlaw10_DictEncodes.Pure := by
  intro l hm h8 hl
  have hu := u64_of hl
  refine Evn.get (g := fun k => casketlaw10_DictEncodes.f k l) ?_
  unfold casketlaw10_DictEncodes.f
  refine Evn.bind awake_ev ?_
  have hj : ∀ c : Bool, Evn (fun k => casketlaw10_DictEncodes.j0 k l true c) true := by
    intro c
    refine Evn.round ?_
    simp only [casketlaw10_DictEncodes.j0]
    cases c with
    | true => exact Evn.pos (by trivial) (Evn.pure _)
    | false =>
      have hlen : (dEnc l).1.length < 140737488355328 := by
        unfold dEnc
        split
        · simp
        · next h =>
          have := enc_len (l := l) (by omega)
          show (dEncB l).length < _
          omega
      exact Evn.neg (by decide) (Evn.bindc (Enc_f hu (by omega)) (Evn.bind (rEnc_ev hu) (Evn.pos (by trivial) (Evn.pos rfl (Evn.bind (Same1_self _ hlen) (Evn.pure _))))))
  by_cases c0 : (l.length : Int) > 300
  · exact Evn.pos c0 (hj _)
  · exact Evn.neg c0 (hj _)
end Go.Proofs.Ytfnnlcmfahadhaa.Pure
