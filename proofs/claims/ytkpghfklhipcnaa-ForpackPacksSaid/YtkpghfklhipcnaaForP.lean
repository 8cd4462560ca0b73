/- forpack as plain lists: what is packed, by the program and by the document. -/
import Derived.Test.YtkpghfklhipcnaaRefBit
import Derived.Test.YtkpghfklhipcnaaRefVar
import Derived.Test.YtkpghfklhipcnaaSame5
import Derived.Test.YtkpghfklhipcnaaPx4
import Derived.Test.YtkpghfklhipcnaaPx8
import Derived.Test.YtkpghfklhipcnaaFrame
namespace Go.Proofs.Ytkpghfklhipcnaa.ForP
open Go.RowKit Go.Proofs.Ytkpghfklhipcnaa.P Go.Proofs.Ytkpghfklhipcnaa.Kit Go.Proofs.Ytkpghfklhipcnaa.Var Go.Proofs.YtkpghfklhipcnaaW.PrintWords Go.Proofs.YtkpghfklhipcnaaW.PrintLast Go.Proofs.YtkpghfklhipcnaaW.PrintMore
set_option linter.unusedVariables false
set_option linter.unusedSimpArgs false

def U64 (l : List Int) : Prop := ∀ x ∈ l, 0 ≤ x ∧ x < 18446744073709551616
theorem u64_of {l : List Int} (h : ∀ x ∈ l, (Lit.int .u64 x).wf = true) : U64 l := fun x hx => wfu64 (h x hx)
theorem stE_facts (l : List Int) : ∀ k, k ≤ l.length → (∀ i : Nat, i < k → (stE l k).1 ≤ rd l (i : Int) ∧ rd l (i : Int) ≤ (stE l k).2) ∧ (0 < k → (∃ i : Nat, i < k ∧ (stE l k).1 = rd l (i : Int)) ∧ ∃ i : Nat, i < k ∧ (stE l k).2 = rd l (i : Int))
  | 0, _ => ⟨fun i hi => by omega, fun h => by omega⟩
  | k + 1, hk => by
    obtain ⟨h1, h2⟩ := stE_facts l k (by omega)
    have hE : stE l (k + 1) = (if rd l (k : Int) < (if k = 0 then (rd l (k : Int), rd l (k : Int)) else stE l k).1 then rd l (k : Int) else (if k = 0 then (rd l (k : Int), rd l (k : Int)) else stE l k).1, if (if k = 0 then (rd l (k : Int), rd l (k : Int)) else stE l k).2 < rd l (k : Int) then rd l (k : Int) else (if k = 0 then (rd l (k : Int), rd l (k : Int)) else stE l k).2) := rfl
    by_cases h0 : k = 0
    · subst h0
      simp only [if_true, Int.lt_irrefl, if_false] at hE
      rw [hE]
      refine ⟨fun i hi => ?_, fun _ => ⟨⟨0, by omega, rfl⟩, ⟨0, by omega, rfl⟩⟩⟩
      obtain rfl : i = 0 := by omega
      exact ⟨Int.le_refl _, Int.le_refl _⟩
    · simp only [if_neg h0] at hE
      obtain ⟨⟨a, ha, ea⟩, ⟨b, hb, eb⟩⟩ := h2 (by omega)
      rw [hE]
      refine ⟨fun i hi => ?_, fun _ => ⟨?_, ?_⟩⟩
      · rcases Nat.lt_or_ge i k with c | c
        · have := h1 i c
          constructor <;> dsimp only <;> split <;> omega
        · obtain rfl : i = k := by omega
          constructor <;> dsimp only <;> split <;> omega
      · dsimp only
        split
        · exact ⟨k, by omega, rfl⟩
        · exact ⟨a, by omega, ea⟩
      · dsimp only
        split
        · exact ⟨k, by omega, rfl⟩
        · exact ⟨b, by omega, eb⟩
def mnL (l : List Int) : Int := (stE l l.length).1
def mxL (l : List Int) : Int := (stE l l.length).2
theorem bd_of {l : List Int} (h : U64 l) : 0 ≤ mnL l ∧ mnL l ≤ mxL l ∧ mxL l < 18446744073709551616 ∧ ∀ x ∈ l, mnL l ≤ x ∧ x ≤ mxL l := by
  rcases Nat.eq_zero_or_pos l.length with h0 | h0
  · have : l = [] := List.eq_nil_of_length_eq_zero h0
    subst this
    exact ⟨by decide, by decide, by decide, fun x hx => by cases hx⟩
  · obtain ⟨h1, h2⟩ := stE_facts l l.length (Nat.le_refl _)
    obtain ⟨⟨a, ha, ea⟩, ⟨b, hb, eb⟩⟩ := h2 h0
    have ma := h _ (rd_mem l (a : Int) (by omega) (by omega))
    have mb := h _ (rd_mem l (b : Int) (by omega) (by omega))
    have := h1 a ha
    refine ⟨by rw [mnL, ea]; exact ma.1, Int.le_trans this.1 this.2, by rw [mxL, eb]; exact mb.2, fun x hx => ?_⟩
    obtain ⟨i, hi, rfl⟩ := List.mem_iff_getElem.1 hx
    have := h1 i hi
    rw [show rd l (i : Int) = l[i] by simp [rd, List.getD_eq_getElem?_getD, hi]] at this
    exact this
/-- How many bits. -/
def wL (l : List Int) : Nat := Lib.bitLen (mxL l - mnL l).toNat
theorem wL_le {l : List Int} (h : U64 l) : wL l ≤ 64 := by
  have := bd_of h
  exact bl_64 (by omega) (by omega)
/-- The numbers above the least one, bit by bit. -/
def flatB (m : Int) (w : Nat) (l : List Int) : List Int := l.flatMap fun v => bitsOf w (v - m)
theorem flatB_append (m : Int) (w : Nat) (a b : List Int) : flatB m w (a ++ b) = flatB m w a ++ flatB m w b := by simp [flatB]
theorem flatB_cons (m : Int) (w : Nat) (v : Int) (b : List Int) : flatB m w (v :: b) = bitsOf w (v - m) ++ flatB m w b := by simp [flatB]
theorem flatB_01 (m : Int) (w : Nat) (l : List Int) : is01 (flatB m w l) := by
  intro x hx
  obtain ⟨v, _, hv⟩ := List.mem_flatMap.1 hx
  exact bitsOf_01 _ _ x hv
theorem flatB_length (m : Int) (w : Nat) : ∀ l : List Int, (flatB m w l).length = l.length * w
  | [] => by simp [flatB]
  | v :: l => by
    rw [flatB_cons, List.length_append, bitsOf_length, flatB_length m w l, List.length_cons, Nat.add_mul]
    omega
def packB (l : List Int) : List Int := vn (mnL l).toNat ++ (wL l : Int) :: pack (flatB (mnL l) (wL l) l)
def packF (l : List Int) : List Int × Int := if 65536 < l.length then ([], 4) else (packB l, 0)
theorem Width_f (v : Int) (h0 : 0 ≤ v) (h1 : v < 18446744073709551616) : bits_Width.f v = some (Lib.bitLen v.toNat : Int) := by
  unfold bits_Width.f bits_Len64.f
  rw [if_pos ⟨h0, by omega⟩, Option.bind_some]
theorem frame_f {l : List Int} (h : U64 l) (hl : l.length < 140737488355328) : forpack_frame.f l = some (mnL l, (wL l : Int)) := by
  have := bd_of h
  unfold forpack_frame.f
  rw [if_pos hl, wrapu64, show ((stE l l.length).2 - (stE l l.length).1) % 18446744073709551616 = mxL l - mnL l by unfold mxL mnL at *; omega, Width_f _ (by omega) (by omega)]
  rfl
theorem mn_fits {l : List Int} (h : U64 l) {v : Int} (hv : v ∈ l) : 0 ≤ v - mnL l ∧ v - mnL l < 18446744073709551616 ∧ Lib.bitLen (v - mnL l).toNat ≤ wL l ∧ IntKind.u64.wrap (v - mnL l) = v - mnL l ∧ v - mnL l < 2 ^ wL l := by
  obtain ⟨b1, b2, b3, b4⟩ := bd_of h
  have := b4 v hv
  have hx : (mxL l - mnL l).toNat < 2 ^ wL l := bl_lt _ _ (by omega) (Nat.le_refl _)
  have hlt : (v - mnL l).toNat < 2 ^ wL l := by omega
  refine ⟨by omega, by omega, bl_le (wL_le h) hlt, by rw [wrapu64]; omega, ?_⟩
  have h2 : ((v - mnL l).toNat : Int) < (2 : Int) ^ wL l := by exact_mod_cast hlt
  rw [Int.toNat_of_nonneg (by omega)] at h2
  exact h2
theorem Pack_loop {l : List Int} (h : U64 l) (hl : l.length ≤ 65536) (t : List Int) : ∀ p : List Int, l = p ++ t → Evn (fun k => forpack_Pack.l0 k (mnL l) (wL l : Int) l (l.length : Int) (p.length : Int) (flatB (mnL l) (wL l) p)) (packB l, 0) := by
  have hw := wL_le h
  have hb := bd_of h
  induction t with
  | nil =>
    intro p e
    rw [List.append_nil] at e
    subst e
    refine Evn.round ?_
    simp only [forpack_Pack.l0]
    have hvl := vn_len10 (mnL l).toNat (by omega)
    have hfl := flatB_length (mnL l) (wL l) l
    have hm : l.length * wL l ≤ 65536 * 64 := Nat.mul_le_mul hl hw
    refine Evn.neg (by omega) (Evn.bind (Append_ev [] _ (by simp) hb.1 (by omega)) (Evn.pos (by simp; omega) (Evn.bindc rfl (Evn.bindc (a := (pack (flatB (mnL l) (wL l) l), flatB (mnL l) (wL l) l)) (by unfold bits_Writer_Bytes.f; rw [if_pos (by omega)]) (Evn.pos (by simp [pack_length]; omega) ?_)))))
    refine (Evn.pure _).eq ?_
    rw [packB, show ((wL l : Int)) % 256 = (wL l : Int) by omega]
    simp
  | cons v t ih =>
    intro p e
    refine Evn.round ?_
    simp only [forpack_Pack.l0]
    have hlen : l.length = p.length + t.length + 1 := by rw [e]; simp; omega
    have hv : rd l (p.length : Int) = v := by rw [e]; exact rd_mid p v t _ rfl
    have hmem : v ∈ l := by rw [e]; simp
    obtain ⟨f1, f2, f3, f4, f5⟩ := mn_fits h hmem
    have hfl := flatB_length (mnL l) (wL l) p
    have hm : p.length * wL l ≤ 65536 * 64 := Nat.mul_le_mul (by omega) hw
    rw [hv, f4]
    refine Evn.pos (by omega) (Evn.pos (by omega) (Evn.pos (by omega) (Evn.bindc (a := (0, flatB (mnL l) (wL l) (p ++ [v]))) ?_ ?_)))
    · unfold bits_Writer_Put.f
      rw [if_pos ⟨by omega, by omega, by omega⟩]
      unfold wPut
      rw [if_neg (by omega), Int.toNat_natCast, flatB_append, flatB_cons]
      simp [flatB]
    · have h2 := ih (p ++ [v]) (by rw [e]; simp)
      rw [wrap64_id (by omega) (by omega)]
      simpa using h2
theorem Pack_ev {l : List Int} (h : U64 l) (hl : l.length < 140737488355328) : Evn (fun k => forpack_Pack.f k l) (packF l) := by
  unfold forpack_Pack.f packF
  by_cases c : 65536 < l.length
  · rw [if_pos c]
    exact Evn.pos (by omega) (Evn.pure _)
  · rw [if_neg c]
    exact Evn.neg (by omega) (Evn.bindc (frame_f h (by omega)) (Pack_loop h (by omega) l [] rfl))
end Go.Proofs.Ytkpghfklhipcnaa.ForP
