/- For all lists of numbers (but for those of 601 to 65536) and every sort: simple.Encode and simple.Room answer as the document does. No condition. -/
import Derived.Test.YtfcllbkjhiendaaSimL
import Derived.Test.YtfcllbkjhiendaaPx6
namespace Go.Proofs.Ytfcllbkjhiendaa.Pure
open Go.RowKit Go.Proofs.Ytfcllbkjhiendaa.P Go.Proofs.Ytfcllbkjhiendaa.Kit Go.Proofs.Ytfcllbkjhiendaa.Var Go.Proofs.Ytfcllbkjhiendaa.Sim Go.Proofs.YtfcllbkjhiendaaW.PrintWords Go.Proofs.YtfcllbkjhiendaaW.PrintLast Go.Proofs.YtfcllbkjhiendaaW.PrintMore
set_option linter.unusedVariables false
set_option linter.unusedSimpArgs false

theorem SimpleEncodes : casketlaw06_SimpleEncodes.Pure := by
  intro l a1 hm h8 hl h1
  have hu := us_of hl
  refine Evn.get (g := fun k => casketlaw06_SimpleEncodes.f k l a1) ?_
  unfold casketlaw06_SimpleEncodes.f
  refine Evn.bind awake_ev ?_
  have key : Evn (fun k => casketlaw06_SimpleEncodes.j0 k l a1 true false) true := by
    refine Evn.round ?_
    simp only [casketlaw06_SimpleEncodes.j0]
    have hlen := sEnc_len l
    refine Evn.neg (by decide) (Evn.bindc (Enc_f l hu (by omega)) (Evn.bind (rEnc_ev l hu) ?_))
    obtain ⟨r, hr⟩ : ∃ r, simple_Room.f a1 = some r := ⟨_, rfl⟩
    refine Evn.bindc hr (Evn.bindc (by rw [room_same]; exact hr) (Evn.pos trivial (Evn.pos rfl (Evn.bind (Same_self _ (by omega)) (Evn.pos rfl (Evn.pos rfl ?_))))))
    exact (Evn.pure _).eq (by simp)
  by_cases c0 : (l.length : Int) > 600
  · refine Evn.pos c0 ?_
    by_cases c1 : (l.length : Int) ≤ 65536
    · rw [decide_eq_true c1]
      refine Evn.round ?_
      simp only [casketlaw06_SimpleEncodes.j0]
      exact Evn.pos trivial (Evn.pure _)
    · rw [decide_eq_false c1]
      exact key
  · exact Evn.neg c0 key
end Go.Proofs.Ytfcllbkjhiendaa.Pure
