/- For every unsigned and every signed number and all bytes behind (at most 300): what Append wrote is read again, in as many bytes as Size says; Zag undoes Zig and Zig Zag. No condition. -/
import Derived.Test.YtmmghnplgpncdaaTwo
import Derived.Test.YtmmghnplgpncdaaPx3
namespace Go.Proofs.Ytmmghnplgpncdaa.Pure
open Go.RowKit Go.Proofs.Ytmmghnplgpncdaa.P Go.Proofs.Ytmmghnplgpncdaa.Kit Go.Proofs.Ytmmghnplgpncdaa.Var Go.Proofs.Ytmmghnplgpncdaa.Two Go.Proofs.YtmmghnplgpncdaaW.PrintWords Go.Proofs.YtmmghnplgpncdaaW.PrintLast Go.Proofs.YtmmghnplgpncdaaW.PrintMore
set_option linter.unusedVariables false
set_option linter.unusedSimpArgs false

theorem VarintBack : casketlaw02_VarintBack.Pure := by
  intro v n b hv hn hm h1 hb
  refine Evn.get (g := fun k => casketlaw02_VarintBack.f k v n b) ?_
  unfold casketlaw02_VarintBack.f
  refine Evn.bind awake_ev ?_
  by_cases h : (b.length : Int) > 300
  · exact Evn.pos h (Evn.pure _)
  · obtain ⟨v0, v1⟩ := wfu64 hv
    have h10 := vn_len10 v.toNat (by omega)
    have z := zig_bd n (wf64 hn)
    have ev : ((v.toNat : Nat) : Int) = v := by omega
    refine Evn.neg h ?_
    refine Evn.bind (Append_ev [] v (by simp) v0 v1) ?_
    rw [List.nil_append]
    refine Evn.bindc (a := []) rfl (Evn.pos (by simp; omega) ?_)
    refine Evn.bindc (a := [] ++ vn v.toNat) rfl (Evn.pos (by simp; omega) ?_)
    rw [List.nil_append]
    refine Evn.bind (Read_back v.toNat b (by omega) (bytes_of hb) (by omega)) ?_
    refine Evn.pos rfl (Evn.pos rfl (Evn.pos ev (Evn.pos rfl ?_)))
    refine Evn.bind (Size_ev v v0 v1) (Evn.pos rfl ?_)
    refine Evn.bindc (Zig_f n (wf64 hn)) (Evn.bindc (Zag_f _ z.1 z.2) (Evn.pos (zag_zig n) ?_))
    refine Evn.bindc (Zag_f v v0 v1) (Evn.bindc (Zig_f _ (zag_bd v v0 v1)) ?_)
    rw [zig_zag v v0]
    exact (Evn.pure _).eq (by simp)

end Go.Proofs.Ytmmghnplgpncdaa.Pure
