/- For all lists of up to 300 patterns and every place: a list cut off takes no more bytes than the whole; one pattern takes eight. No condition. -/
import Derived.Test.YtfpnoceppjjafaaDoorGback
import Derived.Test.YtfpnoceppjjafaaDoorPx10
namespace Go.Proofs.YtfpnoceppjjafaaDoor.Pure
open Go.RowKit Go.Proofs.YtfpnoceppjjafaaDoor.P Go.Proofs.YtfpnoceppjjafaaDoor.Kit Go.Proofs.YtfpnoceppjjafaaDoor.Var Go.Proofs.YtfpnoceppjjafaaDoorW.PrintWords Go.Proofs.YtfpnoceppjjafaaDoorW.PrintLast Go.Proofs.YtfpnoceppjjafaaDoorW.PrintMore
set_option linter.unusedVariables false
theorem mask9 (a : Int) : Go.bits .and .i64 a 511 = ((a % 512).toNat : Int) := by
  have h := and_mask a 9 (by omega)
  rw [show (2 : Int) ^ 9 = 512 by decide] at h
  rw [show (511 : Int) = 512 - 1 by decide, h]
  omega
theorem dx_take (l : List Int) {k i : Nat} (h0 : 0 < i) (h : i < k) : dx (l.take k) i = dx l i := by
  unfold dx
  rw [rd_take l k (i : Int) (by omega) (by omega), rd_take l k ((i : Int) - 1) (by omega) (by omega)]
theorem gW_take (l : List Int) (k : Nat) : ∀ i, i ≤ k → gW (l.take k) i = gW l i
  | 0, _ => rfl
  | i + 1, h => by
    by_cases h0 : i = 0
    · subst h0
      rfl
    · rw [gW_succ _ h0, gW_succ _ h0, gW_take l k i (by omega), dx_take l (by omega) (by omega)]
theorem gItem_take (l : List Int) {k i : Nat} (h : i < k) : gItem (l.take k) i = gItem l i := by
  by_cases h0 : i = 0
  · subst h0
    show bitsOf 64 (rd (l.take k) ((0 : Nat) : Int)) = bitsOf 64 (rd l ((0 : Nat) : Int))
    rw [rd_take l k ((0 : Nat) : Int) (by omega) (by omega)]
  · rw [show gItem (l.take k) i = stepB (gW (l.take k) i) (dx (l.take k) i) from if_neg h0, show gItem l i = stepB (gW l i) (dx l i) from if_neg h0, gW_take l k i (by omega), dx_take l (by omega) h]
theorem gB_take (l : List Int) (k : Nat) : ∀ i, i ≤ k → gB (l.take k) i = gB l i
  | 0, _ => rfl
  | i + 1, h => by rw [gB_succ, gB_succ, gB_take l k i (by omega), gItem_take l (by omega)]
theorem enc_take {l : List Int} (hl : l.length ≤ 65536) {k : Nat} (hk : k ≤ l.length) : gEnc (l.take k) = (pack (gB l k), 0) := by
  have e : (l.take k).length = k := by rw [List.length_take]; omega
  rw [gEnc_of (by omega), e, gB_take l k k (Nat.le_refl _)]
theorem gB_le (l : List Int) {k n : Nat} (h : k ≤ n) : (gB l k).length ≤ (gB l n).length := by
  obtain ⟨m, rfl⟩ : ∃ m, n = k + m := ⟨n - k, by omega⟩
  rw [gB_gT, List.length_append]
  omega
theorem GorillaOne : casketlaw09_GorillaOne.Pure := by
  intro l a1 hm h8 hl h1
  have hu := u_of hl
  refine Evn.get (g := fun k => casketlaw09_GorillaOne.f k l a1) ?_
  unfold casketlaw09_GorillaOne.f
  refine Evn.bind awake_ev ?_
  by_cases c0 : (l.length : Int) > 300
  · exact Evn.pos c0 (Evn.pure _)
  · have hl3 : l.length ≤ 65536 := by omega
    obtain ⟨k, hk, hk2⟩ : ∃ k : Nat, mn (Go.bits .and .i64 a1 511) (l.length : Int) = (k : Int) ∧ k ≤ l.length := by
      rw [mask9]
      refine ⟨min (a1 % 512).toNat l.length, ?_, Nat.min_le_right _ _⟩
      unfold mn
      split <;> omega
    obtain ⟨j, hj, hj2⟩ : ∃ j : Nat, mn (l.length : Int) 1 = (j : Int) ∧ j = min l.length 1 := by
      refine ⟨min l.length 1, ?_, rfl⟩
      unfold mn
      split <;> omega
    have hut : ∀ k : Nat, ∀ x ∈ l.take k, U x := fun k x hx => hu x (List.mem_of_mem_take hx)
    simp only [hk, hj]
    refine Evn.neg c0 (Evn.bindc (Enc_f hu (by omega)) (Evn.pos (by omega) (Evn.pos (by omega) ?_)))
    rw [Int.toNat_natCast, Int.toNat_natCast]
    refine Evn.bindc (Enc_f (hut k) (by rw [List.length_take]; omega)) ?_
    rw [enc_take hl3 hk2, gEnc_of hl3]
    refine Evn.pos (by trivial) (Evn.pos (by trivial) (Evn.neg ?_ (Evn.pos (by omega) (Evn.pos (by omega) (Evn.bindc (Enc_f (hut j) (by rw [List.length_take]; omega)) ?_)))))
    · have := gB_le l hk2
      show ¬ ((pack (gB l k)).length : Int) > ((pack (gB l l.length)).length : Int)
      rw [pack_length, pack_length]
      omega
    · rw [enc_take hl3 (show j ≤ l.length by omega)]
      refine Evn.pos (by trivial) (Evn.pos (by trivial) ?_)
      have e : ((pack (gB l j)).length : Int) = 8 * (j : Int) := by
        rw [pack_length]
        rcases Nat.eq_zero_or_pos l.length with h0 | h0
        · rw [show j = 0 by omega, show (gB l 0).length = 0 from rfl]
          decide
        · rw [show j = 1 by omega, gB_succ, List.length_append, show (gB l 0).length = 0 from rfl, show (gItem l 0).length = 64 from bitsOf_length 64 _]
          decide
      refine Evn.const ?_
      rw [show ((pack (gB l j), (0 : Int)).1.length : Int) = 8 * (j : Int) from e, beq_self_eq_true]
end Go.Proofs.YtfpnoceppjjafaaDoor.Pure
