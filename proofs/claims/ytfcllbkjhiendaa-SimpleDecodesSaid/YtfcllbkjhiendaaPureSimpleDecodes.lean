/- For all bytes (at most 300 are looked at) and every count (but for 2001 to 65536): simple.Decode answers as the document does. No condition. -/
import Derived.Test.YtfcllbkjhiendaaSimL
import Derived.Test.YtfcllbkjhiendaaPx8
namespace Go.Proofs.Ytfcllbkjhiendaa.Pure
open Go.RowKit Go.Proofs.Ytfcllbkjhiendaa.P Go.Proofs.Ytfcllbkjhiendaa.Kit Go.Proofs.Ytfcllbkjhiendaa.Var Go.Proofs.Ytfcllbkjhiendaa.Sim Go.Proofs.YtfcllbkjhiendaaW.PrintWords Go.Proofs.YtfcllbkjhiendaaW.PrintLast Go.Proofs.YtfcllbkjhiendaaW.PrintMore
set_option linter.unusedVariables false
set_option linter.unusedSimpArgs false

theorem SimpleDecodes : casketlaw06_SimpleDecodes.Pure := by
  intro b a1 hm h8 hb h1
  have hby : Bytes b := bytes_of hb
  refine Evn.get (g := fun k => casketlaw06_SimpleDecodes.f k b a1) ?_
  unfold casketlaw06_SimpleDecodes.f
  refine Evn.bind awake_ev ?_
  have skip : Evn (fun k => casketlaw06_SimpleDecodes.j0 k b a1 true true) true := by
    refine Evn.round ?_
    simp only [casketlaw06_SimpleDecodes.j0]
    exact Evn.pos trivial (Evn.pure _)
  have hlen : (sDec b a1).1.length < 140737488355328 := by
    by_cases c : (sDec b a1).2 = 0
    · have h := sDec_ok b hby a1 (sDec b a1).1 (by rw [← c])
      have := (sEnc_us h.2).1
      omega
    · rw [sDec_err b a1 c]
      simp
  have key : b.length < 140737488355328 → Evn (fun k => casketlaw06_SimpleDecodes.j0 k b a1 true false) true := by
    intro hl
    refine Evn.round ?_
    simp only [casketlaw06_SimpleDecodes.j0]
    refine Evn.neg (by decide) (Evn.bind (Dec_ev b hby hl a1) (Evn.bind (rDec_ev b hby hl a1) (Evn.pos trivial (Evn.pos rfl ?_))))
    exact Evn.bind (same_ev _ _ hlen) ((Evn.pure _).eq (by simp))
  by_cases c0 : (b.length : Int) > 300
  · exact Evn.pos c0 skip
  · refine Evn.neg c0 ?_
    by_cases c1 : a1 > 2000
    · refine Evn.pos c1 ?_
      by_cases c2 : a1 ≤ 65536
      · rw [decide_eq_true c2]
        exact skip
      · rw [decide_eq_false c2]
        exact key (by omega)
    · exact Evn.neg c1 (key (by omega))
end Go.Proofs.Ytfcllbkjhiendaa.Pure
