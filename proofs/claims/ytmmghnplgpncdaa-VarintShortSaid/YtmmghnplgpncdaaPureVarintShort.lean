/- For all numbers v, w and every cut: cut off anywhere what Append wrote of v is too short; a smaller number takes no more bytes; Size is from 1 to 10. No condition. -/
import Derived.Test.YtmmghnplgpncdaaTwo
import Derived.Test.YtmmghnplgpncdaaPx4
namespace Go.Proofs.Ytmmghnplgpncdaa.Pure
open Go.RowKit Go.Proofs.Ytmmghnplgpncdaa.P Go.Proofs.Ytmmghnplgpncdaa.Kit Go.Proofs.Ytmmghnplgpncdaa.Var Go.Proofs.Ytmmghnplgpncdaa.Two Go.Proofs.YtmmghnplgpncdaaW.PrintWords Go.Proofs.YtmmghnplgpncdaaW.PrintLast Go.Proofs.YtmmghnplgpncdaaW.PrintMore
set_option linter.unusedVariables false
set_option linter.unusedSimpArgs false

theorem VarintShort : casketlaw02_VarintShort.Pure := by
  intro v w c hv hw hc
  obtain ⟨v0, v1⟩ := wfu64 hv
  obtain ⟨w0, w1⟩ := wfu64 hw
  have h10 := vn_len10 v.toNat (by omega)
  have hp := vn_pos v.toNat
  refine Evn.get (g := fun k => casketlaw02_VarintShort.f k v w c) ?_
  unfold casketlaw02_VarintShort.f
  refine Evn.bind awake_ev (Evn.bind (Append_ev [] v (by simp) v0 v1) ?_)
  rw [List.nil_append]
  have e : Go.bits .and .i64 c 15 = c % 16 := and_mask c 4 (by decide)
  obtain ⟨m, hm⟩ : ∃ m : Nat, c % 16 = (m : Int) := ⟨(c % 16).toNat, by omega⟩
  rw [e, hm]
  have key : Evn (fun k => casketlaw02_VarintShort.j0 k v w true) true := by
    by_cases hvw : v < w
    · refine Evn.succ (G := fun k => (varint_Size.f k v).bind fun t => if t ≥ 1 then some (decide (t ≤ 10)) else some false) ?_ fun k => ?_
      · refine Evn.bind (Size_ev v v0 v1) (Evn.pos (by omega) ?_)
        exact (Evn.pure _).eq (by simp; omega)
      · simp only [casketlaw02_VarintShort.j0]
        rw [if_pos trivial, if_pos hvw]
    · have hmono := vn_mono v.toNat w.toNat (by omega)
      refine Evn.succ (G := fun k => (varint_Size.f k v).bind fun t => (varint_Size.f k w).bind fun t2 => if t ≥ t2 then if t ≥ 1 then some (decide (t ≤ 10)) else some false else some false) ?_ fun k => ?_
      · refine Evn.bind (Size_ev v v0 v1) (Evn.bind (Size_ev w w0 w1) (Evn.pos (by omega) (Evn.pos (by omega) ?_)))
        exact (Evn.pure _).eq (by simp; omega)
      · simp only [casketlaw02_VarintShort.j0]
        rw [if_pos trivial, if_neg hvw]
  by_cases hk : (m : Int) < ((vn v.toNat).length : Int)
  · refine Evn.pos hk (Evn.pos (by omega) (Evn.pos (by omega) ?_))
    rw [Int.toNat_natCast]
    have hB : Bytes ((vn v.toNat).take m) := fun x hx => vn_byte _ x (List.mem_of_mem_take hx)
    refine Evn.bind ((Read_ev _ hB (by rw [List.length_take]; omega)).eq (vread_short v.toNat 0 0 m (by omega) (by simp; omega) (by omega))) ?_
    exact Evn.pos rfl key
  · exact Evn.neg hk key

end Go.Proofs.Ytmmghnplgpncdaa.Pure
