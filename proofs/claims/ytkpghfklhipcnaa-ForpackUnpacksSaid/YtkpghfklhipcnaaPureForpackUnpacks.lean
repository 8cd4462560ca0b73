/- For all bytes (at most 300 are looked at) and every count: forpack.Unpack answers as the document does. No condition. -/
import Derived.Test.YtkpghfklhipcnaaFor
import Derived.Test.YtkpghfklhipcnaaPx10
import Derived.Test.YtkpghfklhipcnaaPx6
namespace Go.Proofs.Ytkpghfklhipcnaa.Pure
open Go.RowKit Go.Proofs.Ytkpghfklhipcnaa.P Go.Proofs.Ytkpghfklhipcnaa.Kit Go.Proofs.Ytkpghfklhipcnaa.Var Go.Proofs.Ytkpghfklhipcnaa.ForP Go.Proofs.YtkpghfklhipcnaaW.PrintWords Go.Proofs.YtkpghfklhipcnaaW.PrintLast Go.Proofs.YtkpghfklhipcnaaW.PrintMore
set_option linter.unusedVariables false
set_option linter.unusedSimpArgs false

theorem ForpackUnpacks : casketlaw05_ForpackUnpacks.Pure := by
  intro b n hm h8 hb hn
  have hby := bytes_of hb
  refine Evn.get (g := fun k => casketlaw05_ForpackUnpacks.f k b n) ?_
  unfold casketlaw05_ForpackUnpacks.f
  refine Evn.bind awake_ev ?_
  have hskip : Evn (fun k => casketlaw05_ForpackUnpacks.j0 k b n true true) true := by
    refine Evn.round ?_
    simp only [casketlaw05_ForpackUnpacks.j0]
    exact Evn.pos (by trivial) (Evn.pure _)
  by_cases c0 : (b.length : Int) > 300
  · exact Evn.pos c0 hskip
  · have key : Evn (fun k => casketlaw05_ForpackUnpacks.j0 k b n true false) true := by
      refine Evn.round ?_
      simp only [casketlaw05_ForpackUnpacks.j0]
      have hlen := unpackF_len b n
      refine Evn.neg (by decide) (Evn.bind (Unpack_ev hby (by omega) n) (Evn.bind (rUnpack_ev hby (by omega) n) (Evn.pos (by trivial) (Evn.pos rfl (Evn.bind (same_ev _ _ (by omega)) ?_)))))
      exact (Evn.pure _).eq (by simp)
    refine Evn.neg c0 ?_
    by_cases c1 : n > 400
    · refine Evn.pos c1 ?_
      by_cases c2 : n ≤ 65536
      · rw [decide_eq_true c2]
        exact hskip
      · rw [decide_eq_false c2]
        exact key
    · exact Evn.neg c1 key
end Go.Proofs.Ytkpghfklhipcnaa.Pure
