/- For all bytes (at most 20000 are looked at): pad.Pad and pad.Unpad answer as the document does. No condition. -/
import Derived.Test.YtoghmpdamflehaaPadL
import Derived.Test.YtoghmpdamflehaaPx7
namespace Go.Proofs.Ytoghmpdamflehaa.Pure
open Go.RowKit Go.Proofs.Ytoghmpdamflehaa.P Go.Proofs.Ytoghmpdamflehaa.Kit Go.Proofs.Ytoghmpdamflehaa.Var Go.Proofs.Ytoghmpdamflehaa.PadL Go.Proofs.YtoghmpdamflehaaW.PrintWords Go.Proofs.YtoghmpdamflehaaW.PrintLast Go.Proofs.YtoghmpdamflehaaW.PrintMore
set_option linter.unusedVariables false
set_option linter.unusedSimpArgs false

theorem PadPads : casketlaw19_PadPads.Pure := by
  intro b hm h8 hb
  have hby : Bytes b := bytes_of hb
  refine Evn.get (g := fun f => casketlaw19_PadPads.f f b) ?_
  unfold casketlaw19_PadPads.f
  refine Evn.bindc awake_f ?_
  by_cases c0 : (b.length : Int) > 20000
  · exact Evn.pos c0 (Evn.pure _)
  · have h1 := padP_le b
    have h2 := unpad_len b
    refine Evn.neg c0 (Evn.bindc (Pad_f b (by omega)) (Evn.bind (rPad_ev b (by omega)) (Evn.bind (Unpad_ev b hby (by omega)) (Evn.bind (rUnpad_ev b hby (by omega)) (Evn.pos (by trivial) (Evn.pos rfl (Evn.bind (same_ev _ _ (by omega)) ?_)))))))
    refine Evn.pos (by simp) (Evn.pos rfl (Evn.bind (same_ev _ _ (by omega)) ?_))
    exact (Evn.pure _).eq (by simp)
end Go.Proofs.Ytoghmpdamflehaa.Pure
