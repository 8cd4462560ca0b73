/- For all bytes (up to 300) and every count: bytes that are decoded are those that Encode writes. No condition. -/
import Derived.Test.YtfnnlcmfahadhaaDicL
import Derived.Test.YtfnnlcmfahadhaaPx13
namespace Go.Proofs.Ytfnnlcmfahadhaa.Pure
open Go.RowKit Go.Proofs.Ytfnnlcmfahadhaa.P Go.Proofs.Ytfnnlcmfahadhaa.Kit Go.Proofs.Ytfnnlcmfahadhaa.Var Go.Proofs.Ytfnnlcmfahadhaa.DicP Go.Proofs.YtfnnlcmfahadhaaW.PrintWords Go.Proofs.YtfnnlcmfahadhaaW.PrintLast Go.Proofs.YtfnnlcmfahadhaaW.PrintMore
set_option linter.unusedVariables false
theorem DictOnly : casketlaw10_DictOnly.Pure := by
  intro b n hm h8 hb0 hn
  have hb := bytes_of hb0
  refine Evn.get (g := fun k => casketlaw10_DictOnly.f k b n) ?_
  unfold casketlaw10_DictOnly.f
  refine Evn.bind awake_ev ?_
  have hj : ∀ c : Bool, b.length ≤ 300 ∨ c = true → Evn (fun k => casketlaw10_DictOnly.j0 k b n true c) true := by
    intro c hc
    refine Evn.round ?_
    simp only [casketlaw10_DictOnly.j0]
    cases c with
    | true => exact Evn.pos (by trivial) (Evn.pure _)
    | false =>
      have hl : b.length ≤ 300 := by
        rcases hc with h | h
        · exact h
        · cases h
      refine Evn.neg (by decide) (Evn.bind (Dec_ev hb (by omega) n) ?_)
      rcases dec_cases hb n with ⟨h1, h2⟩ | ⟨o, h1, h2, h3, h4, h5⟩
      · refine Evn.neg h2 (Evn.pos (by trivial) ?_)
        rw [h1]
        exact Evn.pure _
      · rw [h1]
        have hE : dict_Encode.f o = some (b, 0) := by rw [Enc_f h5 (by omega), dEnc_ok h4, h2]
        exact Evn.pos rfl (Evn.bindc hE (Evn.pos (by trivial) (Evn.pos h3 (Evn.pos rfl (Evn.bind (Same1_self b (by omega)) (Evn.pure _))))))
  by_cases c0 : (b.length : Int) > 300
  · exact Evn.pos c0 (hj _ (.inr rfl))
  · exact Evn.neg c0 (hj _ (.inl (by omega)))
end Go.Proofs.Ytfnnlcmfahadhaa.Pure
