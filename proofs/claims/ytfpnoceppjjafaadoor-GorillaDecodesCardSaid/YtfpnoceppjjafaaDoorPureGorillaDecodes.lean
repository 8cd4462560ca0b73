/- For all bytes up to 300 and every number: what Decode answers is what the document's Decode answers. No condition. -/
import Derived.Test.YtfpnoceppjjafaaDoorGl
import Derived.Test.YtfpnoceppjjafaaDoorRdec
import Derived.Test.YtfpnoceppjjafaaDoorPx10
namespace Go.Proofs.YtfpnoceppjjafaaDoor.Pure
open Go.RowKit Go.Proofs.YtfpnoceppjjafaaDoor.P Go.Proofs.YtfpnoceppjjafaaDoor.Kit Go.Proofs.YtfpnoceppjjafaaDoor.Var Go.Proofs.YtfpnoceppjjafaaDoorW.PrintWords Go.Proofs.YtfpnoceppjjafaaDoorW.PrintLast Go.Proofs.YtfpnoceppjjafaaDoorW.PrintMore
set_option linter.unusedVariables false
theorem gLoop_len : ∀ (m : Nat) (out : List Int) (p : Int × Int) (s : List Int), (gLoop m out p s).1.length ≤ out.length + m
  | 0, out, p, s => Nat.le_refl _
  | m + 1, out, p, s => by
    rw [gLoop]
    split
    · exact Nat.zero_le _
    · have := gLoop_len m (out ++ [(gOne out p s).1]) (gOne out p s).2.2.2 (gOne out p s).2.2.1
      rw [List.length_append, List.length_singleton] at this
      omega
theorem gDec_len (b : List Int) (n : Int) : (gDec b n).1.length ≤ 65536 := by
  unfold gDec
  split
  · exact Nat.zero_le _
  · next h =>
    have := gLoop_len n.toNat [] (-1, 0) (unpack b)
    rw [List.length_nil] at this
    unfold gEnd
    split
    · exact Nat.zero_le _
    · split
      · show (gLoop n.toNat [] (-1, 0) (unpack b)).1.length ≤ _
        omega
      · exact Nat.zero_le _
theorem GorillaDecodes : casketlaw09_GorillaDecodes.Pure := by
  intro b n hm h8 hb hn
  have hb := by_of hb
  refine Evn.get (g := fun k => casketlaw09_GorillaDecodes.f k b n) ?_
  unfold casketlaw09_GorillaDecodes.f
  refine Evn.bind awake_ev ?_
  by_cases c0 : (b.length : Int) > 300
  · exact Evn.pos c0 (Evn.pure _)
  · exact Evn.neg c0 (Evn.bindc (Dec_f hb (by omega) n) (Evn.bindc (a := gDec b n) (if_pos ⟨hb, by omega⟩) (Evn.pos rfl (Evn.pos rfl (Evn.bind ((gsame_ev _ _ (by have := gDec_len b n; omega)).eq (decide_eq_true rfl)) (Evn.pure _))))))
end Go.Proofs.YtfpnoceppjjafaaDoor.Pure
