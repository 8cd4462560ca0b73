/- For all bytes (at most 300 are compared), every unsigned and every signed number: varint.Append, Size, Zig, Zag answer as the document's do. No condition. -/
import Derived.Test.YtmmghnplgpncdaaTwo
import Derived.Test.YtmmghnplgpncdaaPx2
namespace Go.Proofs.Ytmmghnplgpncdaa.Pure
open Go.RowKit Go.Proofs.Ytmmghnplgpncdaa.P Go.Proofs.Ytmmghnplgpncdaa.Kit Go.Proofs.Ytmmghnplgpncdaa.Var Go.Proofs.Ytmmghnplgpncdaa.Two Go.Proofs.YtmmghnplgpncdaaW.PrintWords Go.Proofs.YtmmghnplgpncdaaW.PrintLast Go.Proofs.YtmmghnplgpncdaaW.PrintMore
set_option linter.unusedVariables false
set_option linter.unusedSimpArgs false

theorem VarintWrites : casketlaw02_VarintWrites.Pure := by
  intro b v n hm h1 hb hv hn
  refine Evn.get (g := fun k => casketlaw02_VarintWrites.f k b v n) ?_
  unfold casketlaw02_VarintWrites.f
  refine Evn.bind awake_ev ?_
  by_cases h : (b.length : Int) > 300
  · exact Evn.pos h (Evn.pure _)
  · obtain ⟨v0, v1⟩ := wfu64 hv
    have hl : b.length + 10 < 140737488355328 := by omega
    have h10 := vn_len10 v.toNat (by omega)
    refine Evn.neg h (Evn.pos rfl ?_)
    refine Evn.bind (Append_ev b v hl v0 v1) (Evn.bind (rAppend_ev b v hl v0 v1) ?_)
    refine Evn.bind (Same_self _ (by rw [List.length_append]; omega)) (Evn.pos rfl ?_)
    refine Evn.bind (Size_ev v v0 v1) (Evn.bind (rSize_ev v v0 v1) (Evn.pos rfl ?_))
    refine Evn.bindc (Zig_f n (wf64 hn)) (Evn.bindc (rZig_f n (wf64 hn)) (Evn.pos rfl ?_))
    refine Evn.bindc (Zag_f v v0 v1) (Evn.bindc (rZag_f v v0 v1) ?_)
    exact (Evn.pure _).eq (by simp)

end Go.Proofs.Ytmmghnplgpncdaa.Pure
