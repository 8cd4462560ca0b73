/- For all bytes (at most 20000 are looked at): what pad.Unpad takes is what pad.Pad writes of it. No condition. -/
import Derived.Test.YtoghmpdamflehaaPadL
import Derived.Test.YtoghmpdamflehaaPx8
namespace Go.Proofs.Ytoghmpdamflehaa.Pure
open Go.RowKit Go.Proofs.Ytoghmpdamflehaa.P Go.Proofs.Ytoghmpdamflehaa.Kit Go.Proofs.Ytoghmpdamflehaa.Var Go.Proofs.Ytoghmpdamflehaa.PadL Go.Proofs.YtoghmpdamflehaaW.PrintWords Go.Proofs.YtoghmpdamflehaaW.PrintLast Go.Proofs.YtoghmpdamflehaaW.PrintMore
set_option linter.unusedVariables false
set_option linter.unusedSimpArgs false

theorem PadOnly : casketlaw19_PadOnly.Pure := by
  intro b hm h8 hb
  have hby : Bytes b := bytes_of hb
  refine Evn.get (g := fun f => casketlaw19_PadOnly.f f b) ?_
  unfold casketlaw19_PadOnly.f
  refine Evn.bindc awake_f ?_
  by_cases c0 : (b.length : Int) > 20000
  · exact Evn.pos c0 (Evn.pure _)
  · have h2 := unpad_len b
    refine Evn.neg c0 (Evn.bind (Unpad_ev b hby (by omega)) ?_)
    rcases unpad_cases b with h | h
    · have h3 := unpad_ok (b := b) (x := (unpadP b).1) (by rw [← h])
      refine Evn.pos h (Evn.bindc (Pad_f _ (by omega)) (Evn.pos (by trivial) ?_))
      rw [h3]
      refine Evn.pos rfl (Evn.bind (same_ev b b (by omega)) ?_)
      exact (Evn.pure _).eq (by simp)
    · rw [h]
      exact Evn.neg (by decide) (Evn.pos (by trivial) (Evn.pure _))
end Go.Proofs.Ytoghmpdamflehaa.Pure
