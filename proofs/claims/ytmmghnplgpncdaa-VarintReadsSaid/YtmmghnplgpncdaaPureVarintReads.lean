/- For all bytes: what varint.Read reads of them, or why nothing is, is what the document's Read tells of the first 20. No condition. -/
import Derived.Test.YtmmghnplgpncdaaTwo
import Derived.Test.YtmmghnplgpncdaaPx2
namespace Go.Proofs.Ytmmghnplgpncdaa.Pure
open Go.RowKit Go.Proofs.Ytmmghnplgpncdaa.P Go.Proofs.Ytmmghnplgpncdaa.Kit Go.Proofs.Ytmmghnplgpncdaa.Var Go.Proofs.Ytmmghnplgpncdaa.Two Go.Proofs.YtmmghnplgpncdaaW.PrintWords Go.Proofs.YtmmghnplgpncdaaW.PrintLast Go.Proofs.YtmmghnplgpncdaaW.PrintMore
set_option linter.unusedVariables false
set_option linter.unusedSimpArgs false

theorem VarintReads : casketlaw02_VarintReads.Pure := by
  intro b hm h1 hb
  have hB := bytes_of hb
  refine Evn.get (g := fun k => casketlaw02_VarintReads.f k b) ?_
  unfold casketlaw02_VarintReads.f
  refine Evn.bind awake_ev (Evn.bind (Read_ev b hB (by omega)) ?_)
  have e : (mn (b.length : Int) 20).toNat = min b.length 20 := by
    unfold mn
    split <;> omega
  refine Evn.pos (by unfold mn; split <;> omega) (Evn.pos (by unfold mn; split <;> omega) ?_)
  rw [e]
  have hr := rRead_ev (b.take (min b.length 20)) (hB.take _) (by rw [List.length_take]; omega)
  have ht : vread (b.take (min b.length 20)) 0 0 = vread b 0 0 := by
    rcases Nat.lt_or_ge b.length 20 with c | c
    · rw [Nat.min_eq_left (by omega), List.take_of_length_le (by omega)]
    · rw [Nat.min_eq_right c, vread_take b hB 20 0 0 (by omega) (by omega)]
  rw [ht] at hr
  refine Evn.bind hr (Evn.pos rfl (Evn.pos rfl (Evn.pos rfl ?_)))
  exact (Evn.pure _).eq (by simp)

end Go.Proofs.Ytmmghnplgpncdaa.Pure
