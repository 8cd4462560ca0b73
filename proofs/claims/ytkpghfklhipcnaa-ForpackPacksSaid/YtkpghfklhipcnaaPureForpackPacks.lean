/- For all lists of numbers (but for those of 401 to 65536): forpack.Pack answers as the document does. No condition. -/
import Derived.Test.YtkpghfklhipcnaaForR
import Derived.Test.YtkpghfklhipcnaaPx9
import Derived.Test.YtkpghfklhipcnaaPx6
namespace Go.Proofs.Ytkpghfklhipcnaa.Pure
open Go.RowKit Go.Proofs.Ytkpghfklhipcnaa.P Go.Proofs.Ytkpghfklhipcnaa.Kit Go.Proofs.Ytkpghfklhipcnaa.Var Go.Proofs.Ytkpghfklhipcnaa.ForP Go.Proofs.YtkpghfklhipcnaaW.PrintWords Go.Proofs.YtkpghfklhipcnaaW.PrintLast Go.Proofs.YtkpghfklhipcnaaW.PrintMore
set_option linter.unusedVariables false
set_option linter.unusedSimpArgs false

theorem awake_ev : Evn (fun k => casketlaw05_awake.f k) true := Evn.of (fun k => casketlaw05_awake.mono k) 40 (by decide +kernel)
theorem ForpackPacks : casketlaw05_ForpackPacks.Pure := by
  intro l hm h8 hl
  have hu := u64_of hl
  refine Evn.get (g := fun k => casketlaw05_ForpackPacks.f k l) ?_
  unfold casketlaw05_ForpackPacks.f
  refine Evn.bind awake_ev ?_
  have key : Evn (fun k => casketlaw05_ForpackPacks.j0 k l true false) true := by
    refine Evn.round ?_
    simp only [casketlaw05_ForpackPacks.j0]
    have hlen := packF_len hu
    refine Evn.neg (by decide) (Evn.bind (Pack_ev hu (by omega)) (Evn.bind (rPack_ev hu) (Evn.pos (by trivial) (Evn.pos rfl (Evn.bind (Same_self _ (by omega)) ?_)))))
    exact Evn.pure _
  by_cases c0 : (l.length : Int) > 400
  · refine Evn.pos c0 ?_
    by_cases c1 : (l.length : Int) ≤ 65536
    · rw [decide_eq_true c1]
      refine Evn.round ?_
      simp only [casketlaw05_ForpackPacks.j0]
      exact Evn.pos (by trivial) (Evn.pure _)
    · rw [decide_eq_false c1]
      exact key
  · exact Evn.neg c0 key
end Go.Proofs.Ytkpghfklhipcnaa.Pure
