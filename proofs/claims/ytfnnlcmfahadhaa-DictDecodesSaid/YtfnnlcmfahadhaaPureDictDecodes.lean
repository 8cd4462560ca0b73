/- For all bytes (up to 300) and every count: what is decoded is what the document says. No condition. -/
import Derived.Test.YtfnnlcmfahadhaaDicL
import Derived.Test.YtfnnlcmfahadhaaPx13
namespace Go.Proofs.Ytfnnlcmfahadhaa.Pure
open Go.RowKit Go.Proofs.Ytfnnlcmfahadhaa.P Go.Proofs.Ytfnnlcmfahadhaa.Kit Go.Proofs.Ytfnnlcmfahadhaa.Var Go.Proofs.Ytfnnlcmfahadhaa.DicP Go.Proofs.YtfnnlcmfahadhaaW.PrintWords Go.Proofs.YtfnnlcmfahadhaaW.PrintLast Go.Proofs.YtfnnlcmfahadhaaW.PrintMore
set_option linter.unusedVariables false
theorem dec_len {b : List Int} (hb : Bytes b) (n : Int) : (dDec b n).1.length ≤ 65536 := by
  rcases dec_cases hb n with ⟨h1, _⟩ | ⟨o, h1, _, _, h2, _⟩
  · rw [h1]
    simp
  · rw [h1]
    exact h2
theorem DictDecodes : casketlaw10_DictDecodes.Pure := by
  intro b n hm h8 hb0 hn
  have hb := bytes_of hb0
  refine Evn.get (g := fun k => casketlaw10_DictDecodes.f k b n) ?_
  unfold casketlaw10_DictDecodes.f
  refine Evn.bind awake_ev ?_
  have hj : ∀ c : Bool, b.length ≤ 300 ∨ c = true → Evn (fun k => casketlaw10_DictDecodes.j0 k b n true c) true := by
    intro c hc
    refine Evn.round ?_
    simp only [casketlaw10_DictDecodes.j0]
    cases c with
    | true => exact Evn.pos (by trivial) (Evn.pure _)
    | false =>
      have hl : b.length ≤ 300 := by
        rcases hc with h | h
        · exact h
        · cases h
      have h2 := same_ev (dDec b n).1 (dDec b n).1 (by have := dec_len hb n; omega)
      rw [decide_eq_true rfl] at h2
      exact Evn.neg (by decide) (Evn.bind (Dec_ev hb (by omega) n) (Evn.bind (rDec_ev hb (by omega) n) (Evn.pos (by trivial) (Evn.pos rfl (Evn.bind h2 (Evn.pure _))))))
  by_cases c0 : (b.length : Int) > 300
  · exact Evn.pos c0 (hj _ (.inr rfl))
  · refine Evn.neg c0 ?_
    by_cases c1 : n > 600
    · exact Evn.pos c1 (hj _ (.inl (by omega)))
    · exact Evn.neg c1 (hj _ (.inl (by omega)))
end Go.Proofs.Ytfnnlcmfahadhaa.Pure
