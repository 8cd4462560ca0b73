/- What the cursor reads of varints, plainly. -/
import Derived.Test.YtcfkljhdjoepkaaCurK
namespace Go.Proofs.Ytcfkljhdjoepkaa.Var
open Go.RowKit Go.Proofs.Ytcfkljhdjoepkaa.P Go.Proofs.Ytcfkljhdjoepkaa.Kit Go.Proofs.YtcfkljhdjoepkaaW.PrintWords Go.Proofs.YtcfkljhdjoepkaaW.PrintLast Go.Proofs.YtcfkljhdjoepkaaW.PrintMore
set_option linter.unusedVariables false
set_option linter.unusedSimpArgs false

theorem vread_vn' (v : Nat) (rest : List Int) (hv : v < 18446744073709551616) : vread (vn v ++ rest) 0 0 = ((v : Int), ((vn v).length : Int), 0) := by
  have hz : (v : Int) * 2 ^ (7 * 0) = (v : Int) := by rw [show 7 * 0 = 0 from rfl, Int.pow_zero, Int.mul_one]
  rw [vread_vn v 0 0 rest (by omega) (by rw [hz]; omega) (fun h => absurd h (by omega)), hz]
  simp
theorem vread_short' (v m : Nat) (hv : v < 18446744073709551616) (hm : m < (vn v).length) : vread ((vn v).take m) 0 0 = (0, 0, 2) := by
  have hz : (v : Int) * 2 ^ (7 * 0) = (v : Int) := by rw [show 7 * 0 = 0 from rfl, Int.pow_zero, Int.mul_one]
  exact vread_short v 0 0 m (by omega) (by rw [hz]; omega) hm
theorem cV_vn (v : Nat) (rest : List Int) (hv : v < 18446744073709551616) : cVarint (vn v ++ rest) = ((v : Int), rest, 0) := by
  unfold cVarint
  have hz : (v : Int) * 2 ^ (7 * 0) = (v : Int) := by rw [show 7 * 0 = 0 from rfl, Int.pow_zero, Int.mul_one]
  rw [vread_vn v 0 0 rest (by omega) (by rw [hz]; omega) (fun h => absurd h (by omega)), hz]
  simp
theorem cV_short (v : Nat) (m : Nat) (hv : v < 18446744073709551616) (hm : m < (vn v).length) : (cVarint ((vn v).take m)).2.2 = 2 := by
  unfold cVarint
  have hz : (v : Int) * 2 ^ (7 * 0) = (v : Int) := by rw [show 7 * 0 = 0 from rfl, Int.pow_zero, Int.mul_one]
  rw [vread_short v 0 0 m (by omega) (by rw [hz]; omega) hm]
theorem cV_only (b : List Int) (hb : Bytes b) (v : Int) (r : List Int) (h : cVarint b = (v, r, 0)) : ∃ u : Nat, v = (u : Int) ∧ u < 18446744073709551616 ∧ b = vn u ++ r := by
  unfold cVarint at h
  injection h with h1 h2
  injection h2 with h2 h3
  obtain ⟨u, e1, e2, e3, e4, e5, e6⟩ := vread_only b 0 0 _ _ hb (by omega) (Prod.ext_iff.mpr ⟨rfl, Prod.ext_iff.mpr ⟨rfl, h3⟩⟩)
  replace e1 : (vread b 0 0).1 = 0 + (u : Int) * 2 ^ (7 * 0) := e1
  replace e2 : (vread b 0 0).2.1 = ((0 + (vn u).length : Nat) : Int) := e2
  rw [show 7 * 0 = 0 from rfl, Int.pow_zero] at e1 e6
  rw [e2, Nat.zero_add, Int.toNat_natCast] at h2
  refine ⟨u, by omega, by omega, ?_⟩
  have := List.take_append_drop (vn u).length b
  rw [e4, h2] at this
  exact this.symm
end Go.Proofs.Ytcfkljhdjoepkaa.Var
