/- For all bytes (at most 5000 are looked at), every place and byte: what is padded is unpadded to the same; turned, longer or shorter it is other bytes or none. No condition. -/
import Derived.Test.YtoghmpdamflehaaPadL
import Derived.Test.YtoghmpdamflehaaPx8
namespace Go.Proofs.Ytoghmpdamflehaa.Pure
open Go.RowKit Go.Proofs.Ytoghmpdamflehaa.P Go.Proofs.Ytoghmpdamflehaa.Kit Go.Proofs.Ytoghmpdamflehaa.Var Go.Proofs.Ytoghmpdamflehaa.PadL Go.Proofs.YtoghmpdamflehaaW.PrintWords Go.Proofs.YtoghmpdamflehaaW.PrintLast Go.Proofs.YtoghmpdamflehaaW.PrintMore
set_option linter.unusedVariables false
set_option linter.unusedSimpArgs false

theorem xor8 (a b : Nat) (ha : a < 256) (hb : b < 256) : Go.bits .xor .u8 (a : Int) (b : Int) = ((a ^^^ b : Nat) : Int) := by
  rw [show Go.bits .xor .u8 (a : Int) (b : Int) = IntKind.u8.wrap ((BitVec.ofInt 8 (a : Int) ^^^ BitVec.ofInt 8 (b : Int)).toNat : Int) from rfl, BitVec.toNat_xor, BitVec.ofInt_natCast, BitVec.ofInt_natCast, BitVec.toNat_ofNat, BitVec.toNat_ofNat, Nat.mod_eq_of_lt (show a < 2 ^ 8 by omega), Nat.mod_eq_of_lt (show b < 2 ^ 8 by omega), IntKind.wrap_u8]
  have := Nat.xor_lt_two_pow (n := 8) ha hb
  omega
theorem xor_facts (x y : Int) (hx : 0 ≤ x ∧ x < 256) (hy : 0 ≤ y ∧ y < 256) : (0 ≤ Go.bits .xor .u8 x y ∧ Go.bits .xor .u8 x y < 256) ∧ (Go.bits .xor .u8 x y = x → y = 0) := by
  obtain ⟨a, rfl⟩ := Int.eq_ofNat_of_zero_le hx.1
  obtain ⟨b, rfl⟩ := Int.eq_ofNat_of_zero_le hy.1
  rw [xor8 a b (by omega) (by omega)]
  have := Nat.xor_lt_two_pow (n := 8) (show a < 2 ^ 8 by omega) (show b < 2 ^ 8 by omega)
  refine ⟨by omega, fun h => ?_⟩
  have h1 : a ^^^ b = a := by omega
  have h2 := congrArg (a ^^^ ·) h1
  rw [← Nat.xor_assoc, Nat.xor_self, Nat.zero_xor] at h2
  omega
theorem len64 {q x : List Int} (h : padP x = (q, 0)) : q.length % 64 = 0 := by
  have hx : x.length ≤ 4194300 := by
    rcases Nat.lt_or_ge 4194300 x.length with c | c
    · unfold padP at h
      rw [if_pos c] at h
      injection h with h1 h2
      cases h2
    · exact c
  have := padP_len x hx
  rw [h] at this
  exact this.2.2.2.1
theorem not_pad (q : List Int) (h : q.length % 64 ≠ 0) : unpadP q = ([], 3) := by
  rcases unpad_cases q with h1 | h1
  · exact absurd (len64 (unpad_ok (x := (unpadP q).1) (by rw [← h1]))) h
  · exact h1
theorem mask16 (a : Int) : Go.bits .and .i64 a 65535 = ((a % 65536).toNat : Int) := by
  have h := and_mask a 16 (by omega)
  rw [show (2 : Int) ^ 16 = 65536 by decide] at h
  rw [show (65535 : Int) = 65536 - 1 by decide, h]
  omega
theorem PadBack : casketlaw19_PadBack.Pure := by
  intro b a1 a2 hm h8 hb h1 h2
  have hby : Bytes b := bytes_of hb
  have hy := wfu8 h2
  refine Evn.get (g := fun k => casketlaw19_PadBack.f k b a1 a2) ?_
  unfold casketlaw19_PadBack.f
  refine Evn.bindc awake_f ?_
  by_cases c0 : (b.length : Int) > 5000
  · exact Evn.pos c0 (Evn.pure _)
  obtain ⟨q1, q2, q3, q4, q5⟩ := padP_len b (by omega)
  have hu := unpad_pad b hby (by omega)
  have hpb := padP_by b hby
  have epb : padP b = ((padP b).1, 0) := by rw [← q1]
  refine Evn.neg c0 (Evn.bindc (Pad_f b (by omega)) (Evn.bind (Unpad_ev _ hpb (by omega)) ?_))
  rw [hu]
  generalize (padP b).1 = p at *
  refine Evn.pos q1 (Evn.pos rfl (Evn.bind (same_ev b b (by omega)) ?_))
  rw [decide_eq_true rfl]
  refine Evn.pos rfl (Evn.round ?_)
  simp only [casketlaw19_PadBack.j0, mask16]
  obtain ⟨j, hj⟩ : ∃ j : Nat, j = (a1 % 65536).toNat % p.length := ⟨_, rfl⟩
  have hjl : j < p.length := by
    rw [hj]
    exact Nat.mod_lt _ (by omega)
  have ej : Int.tmod (((a1 % 65536).toNat : Nat) : Int) (p.length : Int) = (j : Int) := by
    rw [k_tmod _ _ (by omega), hj]
    exact (Int.natCast_emod _ _).symm
  have hw : wrap64 ((p.length : Int) - 1) = ((p.length - 1 : Nat) : Int) := by
    rw [wrap64_id (by omega) (by omega)]
    omega
  have hrd := hpb _ (rd_mem p (j : Int) (by omega) (by omega))
  obtain ⟨x1, x2⟩ := xor_facts _ a2 hrd hy
  refine Evn.neg (by simp only [beq_iff_eq]; omega) (Evn.bindc rfl (Evn.pos (by rw [List.length_nil]; omega) (Evn.bindc rfl ?_)))
  simp only [List.nil_append, ej, hw, Int.toNat_natCast]
  clear ej hw
  obtain ⟨o, ho⟩ : ∃ o, p.set j (Go.bits .xor .u8 (rd p (j : Int)) a2) = o := ⟨_, rfl⟩
  have hol : o.length = p.length := by rw [← ho, List.length_set]
  have hob : Bytes o := by
    intro x hx
    rw [← ho] at hx
    rcases List.mem_or_eq_of_mem_set hx with hx | rfl
    · exact hpb x hx
    · exact x1
  rw [ho]
  have n1 := not_pad (p ++ [0]) (by rw [List.length_append, List.length_singleton]; omega)
  have n2 := not_pad (p.take (p.length - 1)) (by rw [List.length_take]; omega)
  have hb0 : Bytes (p ++ [0]) := Bytes.append hpb (fun x hx => by rw [List.mem_singleton] at hx; omega)
  refine Evn.neg (by omega) (Evn.pos (by omega) (Evn.pos (by omega) (Evn.bind (Unpad_ev o hob (by omega)) ?_)))
  refine Evn.bindc rfl (Evn.pos (by rw [List.length_nil]; omega) (Evn.bindc rfl (Evn.pos (by rw [List.nil_append]; omega) (Evn.bind (Unpad_ev (p ++ [0]) hb0 (by simp; omega)) (Evn.pos (by omega) (Evn.pos (by omega) (Evn.bind (Unpad_ev (p.take (p.length - 1)) (hpb.take _) (by simp; omega)) (Evn.pos (by trivial) ?_))))))))
  rw [n1, n2]
  by_cases c2 : a2 = 0
  · exact Evn.pos c2 (Evn.pos rfl (Evn.pure _))
  · refine Evn.neg c2 ?_
    rcases unpad_cases o with h3 | h3
    · refine Evn.neg (by rw [h3]; decide) (Evn.bind (same_ev _ b (by have := unpad_len o; omega)) ?_)
      have hne : ¬ (unpadP o).1 = b := by
        intro e
        have h4 := unpad_ok (b := o) (x := (unpadP o).1) (by rw [← h3])
        rw [e, epb] at h4
        injection h4 with h5 h6
        apply c2
        apply x2
        have h7 : rd o (j : Int) = Go.bits .xor .u8 (rd p (j : Int)) a2 := by
          rw [← ho]
          simp [rd, List.getD_eq_getElem?_getD, hjl]
        rw [← h7, ← h5]
      rw [decide_eq_false hne]
      exact Evn.neg (by decide) (Evn.pos rfl (Evn.pure _))
    · rw [h3]
      exact Evn.pos rfl (Evn.pos rfl (Evn.pure _))
end Go.Proofs.Ytoghmpdamflehaa.Pure
