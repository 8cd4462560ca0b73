/- For all bytes (at most 300 are looked at) and every count up to 2000: what simple.Decode takes is what simple.Encode writes of it. No condition. -/
import Derived.Test.YtfcllbkjhiendaaSimL
import Derived.Test.YtfcllbkjhiendaaPx10
namespace Go.Proofs.Ytfcllbkjhiendaa.Pure
open Go.RowKit Go.Proofs.Ytfcllbkjhiendaa.P Go.Proofs.Ytfcllbkjhiendaa.Kit Go.Proofs.Ytfcllbkjhiendaa.Var Go.Proofs.Ytfcllbkjhiendaa.Sim Go.Proofs.YtfcllbkjhiendaaW.PrintWords Go.Proofs.YtfcllbkjhiendaaW.PrintLast Go.Proofs.YtfcllbkjhiendaaW.PrintMore
set_option linter.unusedVariables false
set_option linter.unusedSimpArgs false

theorem SimpleOnly : casketlaw06_SimpleOnly.Pure := by
  intro b a1 hm h8 hb h1
  have hby : Bytes b := bytes_of hb
  refine Evn.get (g := fun k => casketlaw06_SimpleOnly.f k b a1) ?_
  unfold casketlaw06_SimpleOnly.f
  refine Evn.bind awake_ev ?_
  by_cases c0 : (b.length : Int) > 300
  · refine Evn.pos c0 (Evn.round ?_)
    simp only [casketlaw06_SimpleOnly.j0]
    exact Evn.pos trivial (Evn.pure _)
  · refine Evn.neg c0 (Evn.round ?_)
    simp only [casketlaw06_SimpleOnly.j0]
    by_cases c1 : a1 > 2000
    · exact Evn.pos (by simp; omega) (Evn.pure _)
    · refine Evn.neg (by simp; omega) (Evn.bind (Dec_ev b hby (by omega) a1) ?_)
      by_cases c : (sDec b a1).2 = 0
      · obtain ⟨h2, h3⟩ := sDec_ok b hby a1 (sDec b a1).1 (by rw [← c])
        have hu := us_of_60 (sDec_us b hby a1)
        refine Evn.pos c (Evn.bindc (Enc_f _ hu (by omega)) (Evn.pos trivial (Evn.pos h2 ?_)))
        rw [h3]
        exact Evn.pos rfl (Evn.bind (Same_self b (by omega)) (Evn.pure _))
      · refine Evn.neg c (Evn.pos trivial ?_)
        rw [sDec_err b a1 c]
        exact Evn.pure _
end Go.Proofs.Ytfcllbkjhiendaa.Pure
