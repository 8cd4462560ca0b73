/- For all bytes (at most 300 are looked at) and every count up to 400: bytes that are unpacked are those that Pack writes of what they are. No condition. -/
import Derived.Test.YtkpghfklhipcnaaFor
import Derived.Test.YtkpghfklhipcnaaPx11
import Derived.Test.YtkpghfklhipcnaaPx6
namespace Go.Proofs.Ytkpghfklhipcnaa.Pure
open Go.RowKit Go.Proofs.Ytkpghfklhipcnaa.P Go.Proofs.Ytkpghfklhipcnaa.Kit Go.Proofs.Ytkpghfklhipcnaa.Var Go.Proofs.Ytkpghfklhipcnaa.ForP Go.Proofs.YtkpghfklhipcnaaW.PrintWords Go.Proofs.YtkpghfklhipcnaaW.PrintLast Go.Proofs.YtkpghfklhipcnaaW.PrintMore
set_option linter.unusedVariables false
set_option linter.unusedSimpArgs false

theorem ForpackOnly : casketlaw05_ForpackOnly.Pure := by
  intro b n hm h8 hb hn
  have hby := bytes_of hb
  refine Evn.get (g := fun k => casketlaw05_ForpackOnly.f k b n) ?_
  unfold casketlaw05_ForpackOnly.f
  refine Evn.bind awake_ev ?_
  have hskip : Evn (fun k => casketlaw05_ForpackOnly.j0 k b n true true) true := by
    refine Evn.round ?_
    simp only [casketlaw05_ForpackOnly.j0]
    exact Evn.pos (by trivial) (Evn.pure _)
  by_cases c0 : (b.length : Int) > 300
  · exact Evn.pos c0 hskip
  · refine Evn.neg c0 ?_
    by_cases c1 : n > 400
    · rw [decide_eq_true c1]
      exact hskip
    · rw [decide_eq_false c1]
      refine Evn.round ?_
      simp only [casketlaw05_ForpackOnly.j0]
      have hlen := unpackF_len b n
      refine Evn.neg (by decide) (Evn.bind (Unpack_ev hby (by omega) n) ?_)
      rcases unpackF_cases b hby n with ⟨h1, h2⟩ | ⟨h1, h2, h3, h4⟩
      · refine Evn.neg h2 (Evn.pos (by trivial) ?_)
        rw [h1]
        exact (Evn.pure _).eq (by simp)
      · refine Evn.pos h1 (Evn.bind (Pack_ev h4 (by omega)) ?_)
        rw [h2]
        refine Evn.pos (by trivial) (Evn.pos h3 (Evn.pos rfl (Evn.bind (Same_self b (by omega)) ?_)))
        exact Evn.pure _
end Go.Proofs.Ytkpghfklhipcnaa.Pure
