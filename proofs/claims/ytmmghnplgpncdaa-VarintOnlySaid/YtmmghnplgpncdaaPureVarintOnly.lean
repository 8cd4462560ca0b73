/- For all bytes (at most 300): where Read reads a number, the bytes that it took are those that Append writes of it; else it tells 0 and 0. No condition. -/
import Derived.Test.YtmmghnplgpncdaaTwo
import Derived.Test.YtmmghnplgpncdaaPx3
namespace Go.Proofs.Ytmmghnplgpncdaa.Pure
open Go.RowKit Go.Proofs.Ytmmghnplgpncdaa.P Go.Proofs.Ytmmghnplgpncdaa.Kit Go.Proofs.Ytmmghnplgpncdaa.Var Go.Proofs.Ytmmghnplgpncdaa.Two Go.Proofs.YtmmghnplgpncdaaW.PrintWords Go.Proofs.YtmmghnplgpncdaaW.PrintLast Go.Proofs.YtmmghnplgpncdaaW.PrintMore
set_option linter.unusedVariables false
set_option linter.unusedSimpArgs false

theorem VarintOnly : casketlaw02_VarintOnly.Pure := by
  intro b hm h1 hb
  have hB := bytes_of hb
  refine Evn.get (g := fun k => casketlaw02_VarintOnly.f k b) ?_
  unfold casketlaw02_VarintOnly.f
  refine Evn.bind awake_ev ?_
  by_cases h : (b.length : Int) > 300
  · exact Evn.pos h (Evn.pure _)
  · refine Evn.neg h (Evn.bind (Read_ev b hB (by omega)) ?_)
    obtain ⟨r, n, e, hr⟩ : ∃ r n e, vread b 0 0 = (r, n, e) := ⟨_, _, _, rfl⟩
    have herr := vread_err b 0 0
    rw [hr] at herr ⊢
    simp only at herr
    by_cases he : e = 0
    · subst he
      obtain ⟨u, e1, e2, e3, e4, e5, e6⟩ := vread_only b 0 0 r n hB (by omega) hr
      simp only [Nat.mul_zero, Int.pow_zero, Int.mul_one, Int.zero_add, Nat.zero_add] at e1 e2 e6
      subst e1 e2
      have hp := vn_pos u
      refine Evn.pos rfl (Evn.neg (by simp only; omega) ?_)
      refine Evn.succ (G := fun k => (varint_Append.f k ([] : List Int) (u : Int)).bind fun t => (casketref01_Same.f k t (vn u)).bind fun t => some t) ?_ fun k => ?_
      · refine Evn.bind (Append_nat [] u (by simp) (by omega)) ?_
        rw [List.nil_append]
        exact Evn.bind (Same_self _ (by omega)) (Evn.pure _)
      · simp only [casketlaw02_VarintOnly.j0]
        rw [if_neg (by simp; omega), if_pos trivial]
        congr 1
        funext t
        rw [if_pos (by omega), if_pos (by omega), Int.toNat_natCast, e4]
    · rcases herr with herr | ⟨rfl, rfl, herr⟩
      · exact absurd herr he
      · refine Evn.neg he (Evn.pos rfl (Evn.pos rfl ?_))
        exact (Evn.pure _).eq (by simp)

end Go.Proofs.Ytmmghnplgpncdaa.Pure
