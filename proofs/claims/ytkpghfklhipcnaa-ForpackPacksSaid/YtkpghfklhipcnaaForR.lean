/- forpack as plain lists: the document's answer for what is packed. -/
import Derived.Test.YtkpghfklhipcnaaForP
import Derived.Test.YtkpghfklhipcnaaPx8
namespace Go.Proofs.Ytkpghfklhipcnaa.ForP
open Go.RowKit Go.Proofs.Ytkpghfklhipcnaa.P Go.Proofs.Ytkpghfklhipcnaa.Kit Go.Proofs.Ytkpghfklhipcnaa.Var Go.Proofs.YtkpghfklhipcnaaW.PrintWords Go.Proofs.YtkpghfklhipcnaaW.PrintLast Go.Proofs.YtkpghfklhipcnaaW.PrintMore
set_option linter.unusedVariables false
set_option linter.unusedSimpArgs false

theorem rBits_loop {l : List Int} {m w i : Int} {u : Int} (hi0 : 0 ≤ i) (hil : i < (l.length : Int)) (hu : IntKind.u64.wrap (rd l i - m) = u) (h0 : 0 ≤ u) (h1 : u < 18446744073709551616) {r : List Int × Int} (d : Nat) : ∀ out : List Int, d ≤ 64 → out.length + d < 17592186044416 →
    Evn (fun k => casketref05_Pack.l1 k l m w (out ++ bitsOf d u) (wrap64 (i + 1))) r → Evn (fun k => casketref05_Pack.l2 k l m w out i ((d : Int) - 1)) r := by
  induction d with
  | zero =>
    intro out _ _ h
    refine Evn.round ?_
    simp only [casketref05_Pack.l2]
    refine Evn.neg (by omega) ?_
    simpa [bitsOf] using h
  | succ d ih =>
    intro out hd ho h
    refine Evn.round ?_
    simp only [casketref05_Pack.l2]
    rw [show ((d + 1 : Nat) : Int) - 1 = (d : Int) by omega, hu, show IntKind.u64.wrap (d : Int) = (d : Int) by rw [wrapu64]; omega, bit_at u d h0 h1 (by omega), wrap64_id (by omega) (by omega)]
    refine Evn.pos (by omega) (Evn.pos hi0 (Evn.pos hil (Evn.pos (by omega) (Evn.pos (by omega) (ih _ (by omega) (by simp; omega) ?_)))))
    simpa [bitsOf] using h
theorem rPack_loop {l : List Int} (h : U64 l) (hl : l.length ≤ 65536) (t : List Int) : ∀ p : List Int, l = p ++ t → Evn (fun k => casketref05_Pack.l1 k l (mnL l) (wL l : Int) (flatB (mnL l) (wL l) p) (p.length : Int)) (packB l, 0) := by
  have hw := wL_le h
  have hb := bd_of h
  induction t with
  | nil =>
    intro p e
    rw [List.append_nil] at e
    subst e
    refine Evn.round ?_
    simp only [casketref05_Pack.l1]
    have hvl := vn_len10 (mnL l).toNat (by omega)
    have hfl := flatB_length (mnL l) (wL l) l
    have hm : l.length * wL l ≤ 65536 * 64 := Nat.mul_le_mul hl hw
    refine Evn.neg (by omega) (Evn.bind (rAppend_ev [] _ (by simp) hb.1 (by omega)) (Evn.pos (by simp; omega) (Evn.bindc rfl (Evn.bind (rBytes_ev _ (flatB_01 _ _ _) (by omega)) (Evn.pos (by simp [pack_length]; omega) ?_)))))
    refine (Evn.pure _).eq ?_
    rw [packB, show ((wL l : Int)) % 256 = (wL l : Int) by omega]
    simp
  | cons v t ih =>
    intro p e
    refine Evn.round ?_
    simp only [casketref05_Pack.l1]
    have hlen : l.length = p.length + t.length + 1 := by rw [e]; simp; omega
    have hv : rd l (p.length : Int) = v := by rw [e]; exact rd_mid p v t _ rfl
    have hmem : v ∈ l := by rw [e]; simp
    obtain ⟨f1, f2, f3, f4, f5⟩ := mn_fits h hmem
    have hfl := flatB_length (mnL l) (wL l) p
    have hm : p.length * wL l ≤ 65536 * 64 := Nat.mul_le_mul (by omega) hw
    refine Evn.pos (by omega) ?_
    rw [wrap64_id (n := (wL l : Int) - 1) (by omega) (by omega)]
    refine rBits_loop (by omega) (by omega) (by rw [hv]; exact f4) f1 f2 (wL l) _ hw (by omega) ?_
    have h2 := ih (p ++ [v]) (by rw [e]; simp)
    rw [wrap64_id (by omega) (by omega)]
    simpa [flatB] using h2
theorem rMin_loop {l : List Int} (h : U64 l) (hl : l.length ≤ 65536) (d : Nat) : ∀ i : Nat, i + d = l.length → Evn (fun k => casketref05_Pack.l0 k l (stE l i).1 (stE l i).2 (i : Int)) (packB l, 0) := by
  induction d with
  | zero =>
    intro i hi
    obtain rfl : i = l.length := by omega
    have hb := bd_of h
    refine Evn.round ?_
    simp only [casketref05_Pack.l0]
    rw [wrapu64, show ((stE l l.length).2 - (stE l l.length).1) % 18446744073709551616 = mxL l - mnL l by unfold mxL mnL at *; omega]
    exact Evn.neg (by omega) (Evn.bind (rWidth_ev _ (by omega) (by omega)) (rPack_loop h hl l [] rfl))
  | succ d ih =>
    intro i hi
    have h2 := ih (i + 1) (by omega)
    have hE : stE l (i + 1) = (if rd l (i : Int) < (if i = 0 then (rd l (i : Int), rd l (i : Int)) else stE l i).1 then rd l (i : Int) else (if i = 0 then (rd l (i : Int), rd l (i : Int)) else stE l i).1, if (if i = 0 then (rd l (i : Int), rd l (i : Int)) else stE l i).2 < rd l (i : Int) then rd l (i : Int) else (if i = 0 then (rd l (i : Int), rd l (i : Int)) else stE l i).2) := rfl
    have hw : wrap64 ((i : Int) + 1) = ((i + 1 : Nat) : Int) := by rw [wrap64_id (by omega) (by omega)]; omega
    rw [hE] at h2
    refine Evn.round ?_
    simp only [casketref05_Pack.l0]
    refine Evn.pos (by omega) ?_
    by_cases h0 : i = 0
    · simp only [if_pos h0, Int.lt_irrefl, if_false] at h2
      refine Evn.pos (by omega) (Evn.round ?_)
      simp only [casketref05_Pack.j1]
      rw [hw]
      exact Evn.pos (by trivial) (Evn.pos (by omega) (Evn.pos (by omega) (Evn.pos (by omega) h2)))
    · simp only [if_neg h0] at h2
      refine Evn.neg (by omega) (Evn.pos (by omega) (Evn.round ?_))
      simp only [casketref05_Pack.j1]
      rw [hw]
      generalize stE l i = s at *
      generalize rd l (i : Int) = v at *
      by_cases d1 : v < s.1
      · rw [if_pos d1] at h2
        refine Evn.pos (decide_eq_true d1) (Evn.pos (by omega) (Evn.pos (by omega) (Evn.neg (by omega) ?_)))
        by_cases d2 : s.2 < v
        · rw [if_pos d2] at h2
          exact Evn.pos d2 h2
        · rw [if_neg d2] at h2
          exact Evn.neg d2 h2
      · rw [if_neg d1] at h2
        refine Evn.neg (by rw [decide_eq_false d1]; decide) (Evn.neg (by omega) (Evn.pos (by omega) (Evn.pos (by omega) ?_)))
        by_cases d2 : s.2 < v
        · rw [if_pos d2] at h2
          exact Evn.pos d2 h2
        · rw [if_neg d2] at h2
          exact Evn.neg d2 h2
theorem rPack_ev {l : List Int} (h : U64 l) : Evn (fun k => casketref05_Pack.f k l) (packF l) := by
  unfold casketref05_Pack.f packF
  by_cases c : 65536 < l.length
  · rw [if_pos c]
    exact Evn.pos (by omega) (Evn.pure _)
  · rw [if_neg c]
    exact Evn.neg (by omega) (rMin_loop h (by omega) l.length 0 (by omega))
theorem packB_len {l : List Int} (h : U64 l) : (packB l).length ≤ l.length * 8 + 12 := by
  have hw := wL_le h
  have hb := bd_of h
  have hvl := vn_len10 (mnL l).toNat (by omega)
  have hm : l.length * wL l ≤ l.length * 64 := Nat.mul_le_mul_left _ hw
  rw [packB, List.length_append, List.length_cons, pack_length, flatB_length]
  omega
theorem packF_len {l : List Int} (h : U64 l) : (packF l).1.length ≤ 600000 := by
  unfold packF
  split
  · simp
  · have := packB_len h
    show (packB l).length ≤ _
    omega
end Go.Proofs.Ytkpghfklhipcnaa.ForP
