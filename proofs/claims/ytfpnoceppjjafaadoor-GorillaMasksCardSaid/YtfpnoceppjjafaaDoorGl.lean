/- What the laws of the patterns lean on: the document's example, and the same list. -/
import Derived.Test.YtfpnoceppjjafaaDoorSame5
import Derived.Test.YtfpnoceppjjafaaDoorRefBit
import Derived.Test.YtfpnoceppjjafaaDoorGdec
import Derived.Test.YtfpnoceppjjafaaDoorPx6
import Derived.Test.YtfpnoceppjjafaaDoorPx4
namespace Go.Proofs.YtfpnoceppjjafaaDoor.P
open Go.RowKit Go.Proofs.YtfpnoceppjjafaaDoor.Kit Go.Proofs.YtfpnoceppjjafaaDoor.Var Go.Proofs.YtfpnoceppjjafaaDoorW.PrintWords Go.Proofs.YtfpnoceppjjafaaDoorW.PrintLast Go.Proofs.YtfpnoceppjjafaaDoorW.PrintMore
set_option linter.unusedVariables false
theorem gsame_ev (a b : List Int) (h : a.length < 140737488355328) : Evn (fun k => casketlaw09_same.f k a b) (decide (a = b)) := (Same5_ev a b h).bind (Evn.pure _)
theorem want_enc : gEnc [5, 5] = ([0, 0, 0, 0, 0, 0, 0, 5, 0], 0) := by decide +kernel
theorem want_dec : gDec [0, 0, 0, 0, 0, 0, 0, 5, 0] 2 = ([5, 5], 0) := by decide +kernel
theorem awake_ev : Evn (fun k => casketlaw09_awake.f k) true := by
  unfold casketlaw09_awake.f
  refine Evn.bindc (a := gEnc [5, 5]) (by unfold gorilla_Encode.f; rw [if_pos (by decide)]) ?_
  refine Evn.bindc (a := gDec [0, 0, 0, 0, 0, 0, 0, 5, 0] 2) (by unfold gorilla_Decode.f; rw [if_pos (by decide)]) ?_
  rw [want_enc, want_dec]
  refine Evn.pos rfl (Evn.bind (Same1_self _ (by decide)) (Evn.pos rfl (Evn.pos rfl (Evn.bind ((gsame_ev [5, 5] [5, 5] (by decide)).eq (by decide)) (Evn.pure _)))))
theorem u_of {l : List Int} (h : ∀ x ∈ l, (Lit.int .u64 x).wf = true) : ∀ x ∈ l, U x := fun x hx => by
  have := wfu64 (h x hx)
  exact ⟨this.1, by omega⟩
theorem by_of {l : List Int} (h : ∀ x ∈ l, (Lit.int .u8 x).wf = true) : isBy l := fun x hx => wfu8 (h x hx)
theorem gEnc_len {l : List Int} (hu : ∀ x ∈ l, U x) : (gEnc l).1.length ≤ 630784 := by
  unfold gEnc
  split
  · exact Nat.zero_le _
  · show (pack (gB l l.length)).length ≤ _
    rw [pack_length]
    have := gB_len hu l.length (Nat.le_refl _)
    omega
theorem Enc_f {l : List Int} (hu : ∀ x ∈ l, U x) (h : l.length < 140737488355328) : gorilla_Encode.f l = some (gEnc l) := if_pos ⟨hu, h⟩
theorem Dec_f {b : List Int} (hb : isBy b) (h : b.length < 2097152) (n : Int) : gorilla_Decode.f b n = some (gDec b n) := if_pos ⟨hb, h⟩
end Go.Proofs.YtfpnoceppjjafaaDoor.P
