/- Numbers as runs: what Decode says of what was encoded, and of any bytes. -/
import Derived.Test.YtdkhnkbhgaobdaaPx1
import Derived.Test.YtdkhnkbhgaobdaaRunsDec
import Derived.Test.YtdkhnkbhgaobdaaPx2
import Derived.Test.YtdkhnkbhgaobdaaPx3
import Derived.Test.YtdkhnkbhgaobdaaRuns
import Derived.Test.YtdkhnkbhgaobdaaSame5
namespace Go.Proofs.Ytdkhnkbhgaobdaa.Runs
open Go.RowKit Go.Proofs.Ytdkhnkbhgaobdaa.P Go.Proofs.Ytdkhnkbhgaobdaa.Kit Go.Proofs.Ytdkhnkbhgaobdaa.Var Go.Proofs.YtdkhnkbhgaobdaaW.PrintWords Go.Proofs.YtdkhnkbhgaobdaaW.PrintLast Go.Proofs.YtdkhnkbhgaobdaaW.PrintMore
set_option linter.unusedVariables false
set_option linter.unusedSimpArgs false

theorem cV_vn (v : Nat) (rest : List Int) (hv : v < 18446744073709551616) : cVarint (vn v ++ rest) = ((v : Int), rest, 0) := by
  unfold cVarint
  have hz : (v : Int) * 2 ^ (7 * 0) = (v : Int) := by rw [show 7 * 0 = 0 from rfl, Int.pow_zero, Int.mul_one]
  rw [vread_vn v 0 0 rest (by omega) (by rw [hz]; omega) (fun h => absurd h (by omega)), hz]
  simp
theorem cV_short (v : Nat) (m : Nat) (hv : v < 18446744073709551616) (hm : m < (vn v).length) : (cVarint ((vn v).take m)).2.2 = 2 := by
  unfold cVarint
  have hz : (v : Int) * 2 ^ (7 * 0) = (v : Int) := by rw [show 7 * 0 = 0 from rfl, Int.pow_zero, Int.mul_one]
  rw [vread_short v 0 0 m (by omega) (by rw [hz]; omega) hm]
theorem cV_only (b : List Int) (hb : Bytes b) (v : Int) (r : List Int) (h : cVarint b = (v, r, 0)) : ∃ u : Nat, v = (u : Int) ∧ u < 18446744073709551616 ∧ b = vn u ++ r := by
  unfold cVarint at h
  injection h with h1 h2
  injection h2 with h2 h3
  obtain ⟨u, e1, e2, e3, e4, e5, e6⟩ := vread_only b 0 0 _ _ hb (by omega) (Prod.ext_iff.mpr ⟨rfl, Prod.ext_iff.mpr ⟨rfl, h3⟩⟩)
  replace e1 : (vread b 0 0).1 = 0 + (u : Int) * 2 ^ (7 * 0) := e1
  replace e2 : (vread b 0 0).2.1 = ((0 + (vn u).length : Nat) : Int) := e2
  rw [show 7 * 0 = 0 from rfl, Int.pow_zero] at e1 e6
  rw [e2, Nat.zero_add, Int.toNat_natCast] at h2
  refine ⟨u, by omega, by omega, ?_⟩
  have := List.take_append_drop (vn u).length b
  rw [e4, h2] at this
  exact this.symm
/-- The last number so far is not the next one. -/
def NoLast (out l : List Int) : Prop := ∀ v, l.head? = some v → ¬ (0 < out.length ∧ rd out ((out.length - 1 : Nat) : Int) = v)
theorem noLast_nil (l : List Int) : NoLast [] l := fun v _ h => absurd h.1 (by simp)
theorem noLast_none (out : List Int) : NoLast out [] := fun v hv => by cases hv
theorem Us.nil : Us [] := fun x hx => by cases hx
theorem last_rep (out : List Int) (v : Int) (c : Nat) : rd (out ++ List.replicate (c + 1) v) (((out ++ List.replicate (c + 1) v).length - 1 : Nat) : Int) = v := by
  rw [rd_right _ _ _ (by simp; omega), List.length_append, List.length_replicate, show ((out.length + (c + 1) - 1 : Nat) : Int) - (out.length : Int) = (c : Int) by omega, rd_nat, List.getD_eq_getElem?_getD, List.getElem?_replicate, if_pos (by omega)]
  rfl
theorem noLast_rep (out : List Int) (v : Int) (c : Nat) (t : List Int) (ht : t.head? ≠ some v) : NoLast (out ++ List.replicate (c + 1) v) t := fun u hu h => by
  rw [last_rep] at h
  exact ht (by rw [hu, h.2])
theorem rdecL_done (d n : Nat) (b out : List Int) (h : n ≤ out.length) : rdecL d n b out = (out, 0, b) := by
  cases d with
  | zero => rfl
  | succ d => rw [rdecL, if_pos h]
theorem rdecL_step (d n : Nat) (b b1 b2 out : List Int) (v k : Int) (h : out.length < n) (h1 : cVarint b = (v, b1, 0)) (h2 : cVarint b1 = (k, b2, 0)) :
    rdecL (d + 1) n b out = if ((n - out.length : Nat) : Int) ≤ k ∨ (0 < out.length ∧ rd out ((out.length - 1 : Nat) : Int) = v) then (out, 3, b2) else rdecL d n b2 (out ++ List.replicate (k.toNat + 1) v) := by
  rw [rdecL, if_neg (by omega), h1]
  simp only [h2]
  simp
theorem rdecL_err1 (d n : Nat) (b b1 out : List Int) (v e : Int) (h : out.length < n) (h1 : cVarint b = (v, b1, e)) (he : e ≠ 0) : rdecL (d + 1) n b out = (out, e, b1) := by
  rw [rdecL, if_neg (by omega), h1]
  simp only
  rw [if_pos he]
theorem rdecL_err2 (d n : Nat) (b b1 b2 out : List Int) (v k e : Int) (h : out.length < n) (h1 : cVarint b = (v, b1, 0)) (h2 : cVarint b1 = (k, b2, e)) (he : e ≠ 0) : rdecL (d + 1) n b out = (out, e, b2) := by
  rw [rdecL, if_neg (by omega), h1]
  simp only [h2]
  rw [if_neg (by simp), if_pos he]
theorem rep_us {v : Int} {c : Nat} {t : List Int} (h : Us (List.replicate (c + 1) v ++ t)) : 0 ≤ v ∧ v < 18446744073709551616 ∧ Us t := by
  have := h v (by simp [List.replicate_succ])
  exact ⟨this.1, this.2, h.right⟩
/-- The step that a run is. -/
theorem rdecL_run (d n : Nat) (v : Int) (c : Nat) (t s out : List Int) (hu : Us (List.replicate (c + 1) v ++ t)) (ht : t.head? ≠ some v) (hc : c < 18446744073709551616) (h : out.length < n) :
    rdecL (d + 1) n (enc 0 (List.replicate (c + 1) v ++ t) ++ s) out = if ((n - out.length : Nat) : Int) ≤ (c : Int) ∨ (0 < out.length ∧ rd out ((out.length - 1 : Nat) : Int) = v) then (out, 3, enc 0 t ++ s) else rdecL d n (enc 0 t ++ s) (out ++ List.replicate (c + 1) v) := by
  obtain ⟨h0, h1, h2⟩ := rep_us hu
  rw [enc_run v t ht c 0, Nat.zero_add, List.append_assoc, List.append_assoc]
  have e1 := cV_vn v.toNat (vn c ++ (enc 0 t ++ s)) (by omega)
  rw [show ((v.toNat : Nat) : Int) = v by omega] at e1
  rw [rdecL_step d n _ _ _ out v (c : Int) h e1 (cV_vn c (enc 0 t ++ s) hc), Int.toNat_natCast]
theorem rdecL_back : ∀ l : List Int, Us l → l.length ≤ 65536 → ∀ (out s : List Int) (d n : Nat), NoLast out l → n = out.length + l.length → l.length ≤ d → rdecL d n (enc 0 l ++ s) out = (out ++ l, 0, s) := by
  refine run_ind ?_ ?_
  · intro _ _ out s d n _ hn _
    rw [rdecL_done _ _ _ _ (by simp at hn; omega)]
    simp [enc]
  · intro v c t ht ih hu hl out s d n hla hn hd
    simp only [List.length_append, List.length_replicate] at hn hd hl
    obtain ⟨d, rfl⟩ : ∃ d', d = d' + 1 := ⟨d - 1, by omega⟩
    rw [rdecL_run d n v c t s out hu ht (by omega) (by omega), if_neg ?_, ih (rep_us hu).2.2 (by omega) _ s d n (noLast_rep out v c t ht) (by simp; omega) (by omega), List.append_assoc]
    rintro (h | h)
    · omega
    · exact hla v (by simp [List.replicate_succ]) h
theorem rfin3 (out b : List Int) (e : Int) (h : e = 3 ∨ e = 0 ∧ b ≠ []) : rfin (out, e, b) = ([], 3) := by
  rcases h with rfl | ⟨rfl, h⟩
  · rfl
  · unfold rfin
    rw [if_neg (by simp), if_pos (List.length_pos_iff.mpr h)]
theorem enc_ne (l : List Int) (h : l ≠ []) (n : Nat) : enc n l ≠ [] := by
  intro e
  have key : ∀ (l : List Int) (n : Nat), l ≠ [] → 0 < (enc n l).length := by
    intro l
    induction l with
    | nil => intro n h; exact absurd rfl h
    | cons v t ih =>
      intro n _
      cases t with
      | nil =>
        rw [enc, List.length_append]
        have := vn_pos v.toNat
        omega
      | cons u t =>
        rw [enc]
        split
        · exact ih _ (by simp)
        · simp only [List.length_append]
          have := vn_pos v.toNat
          omega
  have := key l n h
  rw [e] at this
  exact absurd this (by simp)
theorem rdecL_less : ∀ l : List Int, Us l → l.length ≤ 65536 → ∀ (out s : List Int) (d n : Nat), NoLast out l → out.length ≤ n → n < out.length + l.length → n - out.length ≤ d → rfin (rdecL d n (enc 0 l ++ s) out) = ([], 3) := by
  refine run_ind ?_ ?_
  · intro _ _ out s d n _ h1 h2 _
    simp at h2
    omega
  · intro v c t ht ih hu hl out s d n hla h1 h2 hd
    simp only [List.length_append, List.length_replicate] at h2 hd hl
    by_cases hn : n = out.length
    · rw [rdecL_done _ _ _ _ (by omega)]
      refine rfin3 _ _ _ (.inr ⟨rfl, fun e => ?_⟩)
      exact enc_ne (List.replicate (c + 1) v ++ t) (by simp [List.replicate_succ]) 0 (List.append_eq_nil_iff.mp e).1
    · obtain ⟨d, rfl⟩ : ∃ d', d = d' + 1 := ⟨d - 1, by omega⟩
      rw [rdecL_run d n v c t s out hu ht (by omega) (by omega)]
      split
      · exact rfin3 _ _ _ (.inl rfl)
      · next h =>
        have hk : ¬ ((n - out.length : Nat) : Int) ≤ (c : Int) := fun e => h (.inl e)
        exact ih (rep_us hu).2.2 (by omega) _ s d n (noLast_rep out v c t ht) (by simp; omega) (by simp; omega) (by simp; omega)
theorem rdecL_cut : ∀ l : List Int, Us l → l.length ≤ 65536 → ∀ (out : List Int) (d n k : Nat), NoLast out l → n = out.length + l.length → l.length ≤ d → k < (enc 0 l).length → rfin (rdecL d n ((enc 0 l).take k) out) = ([], 2) := by
  refine run_ind ?_ ?_
  · intro _ _ out d n k _ _ _ hk
    simp [enc] at hk
  · intro v c t ht ih hu hl out d n k hla hn hd hk
    simp only [List.length_append, List.length_replicate] at hn hd hl
    obtain ⟨d, rfl⟩ : ∃ d', d = d' + 1 := ⟨d - 1, by omega⟩
    obtain ⟨h0, h1, h2⟩ := rep_us hu
    rw [enc_run v t ht c 0, Nat.zero_add, List.append_assoc] at hk ⊢
    by_cases c1 : k < (vn v.toNat).length
    · rw [List.take_append_of_le_length (by omega)]
      have e := cV_short v.toNat k (by omega) c1
      obtain ⟨v', b', e', hcv⟩ : ∃ v' b' e', cVarint ((vn v.toNat).take k) = (v', b', e') := ⟨_, _, _, rfl⟩
      rw [hcv] at e
      rw [rdecL_err1 d n _ _ out _ _ (by omega) hcv (by rw [show e' = 2 from e]; decide), show e' = 2 from e]
      rfl
    · rw [List.take_append, List.take_of_length_le (by omega)]
      have e1 := cV_vn v.toNat ((vn c ++ enc 0 t).take (k - (vn v.toNat).length)) (by omega)
      by_cases c2 : k - (vn v.toNat).length < (vn c).length
      · rw [List.take_append_of_le_length (by omega)] at e1 ⊢
        have e := cV_short c (k - (vn v.toNat).length) (by omega) c2
        obtain ⟨v', b', e', hcv⟩ : ∃ v' b' e', cVarint ((vn c).take (k - (vn v.toNat).length)) = (v', b', e') := ⟨_, _, _, rfl⟩
        rw [hcv] at e
        rw [rdecL_err2 d n _ _ _ out _ _ _ (by omega) e1 hcv (by rw [show e' = 2 from e]; decide), show e' = 2 from e]
        rfl
      · rw [List.take_append, List.take_of_length_le (l := vn c) (by omega)] at e1 ⊢
        rw [show ((v.toNat : Nat) : Int) = v by omega] at e1
        rw [rdecL_step d n _ _ _ out _ _ (by omega) e1 (cV_vn c _ (by omega)), if_neg ?_, Int.toNat_natCast]
        · simp only [List.length_append] at hk
          exact ih (rep_us hu).2.2 (by omega) _ d n _ (noLast_rep out v c t ht) (by simp; omega) (by omega) (by omega)
        · rintro (h | h)
          · omega
          · exact hla v (by simp [List.replicate_succ]) h
theorem rdecL_only (d : Nat) : ∀ (n : Nat) (b out o r : List Int), Bytes b → n - out.length ≤ d → out.length ≤ n → n ≤ 65536 → rdecL d n b out = (o, 0, r) → ∃ l, o = out ++ l ∧ b = enc 0 l ++ r ∧ NoLast out l ∧ Us l ∧ o.length = n := by
  induction d with
  | zero =>
    intro n b out o r hb hd hn _ h
    rw [rdecL_done _ _ _ _ (by omega)] at h
    injection h with h1 h2
    injection h2 with h2 h3
    exact ⟨[], by simp [h1], by simp [enc, h3], noLast_none out, Us.nil, by rw [← h1]; omega⟩
  | succ d ih =>
    intro n b out o r hb hd hn h65 h
    by_cases hlt : out.length < n
    · obtain ⟨v, b1, e1, hv⟩ : ∃ v b1 e1, cVarint b = (v, b1, e1) := ⟨_, _, _, rfl⟩
      by_cases c1 : e1 = 0
      · subst c1
        obtain ⟨k, b2, e2, hk⟩ : ∃ k b2 e2, cVarint b1 = (k, b2, e2) := ⟨_, _, _, rfl⟩
        obtain ⟨u, rfl, hu, hbu⟩ := cV_only b hb v b1 hv
        have hb1 : Bytes b1 := fun x hx => hb x (by rw [hbu]; exact List.mem_append_right _ hx)
        by_cases c2 : e2 = 0
        · subst c2
          obtain ⟨c, rfl, hc, hbc⟩ := cV_only b1 hb1 k b2 hk
          have hb2 : Bytes b2 := fun x hx => hb1 x (by rw [hbc]; exact List.mem_append_right _ hx)
          rw [rdecL_step d n _ _ _ out _ _ hlt hv hk, Int.toNat_natCast] at h
          split at h
          · injection h with h1 h2
            injection h2 with h2 h3
            exact absurd h2 (by decide)
          · next hno =>
            have hcn : ¬ ((n - out.length : Nat) : Int) ≤ (c : Int) := fun e => hno (.inl e)
            obtain ⟨l, ho, hbb, hla, hus, hol⟩ := ih n b2 _ o r hb2 (by simp; omega) (by simp; omega) h65 h
            have hhd : l.head? ≠ some (u : Int) := fun e => hla _ e ⟨by simp; omega, last_rep _ _ _⟩
            refine ⟨List.replicate (c + 1) (u : Int) ++ l, by rw [ho, List.append_assoc], ?_, ?_, ?_, hol⟩
            · rw [enc_run _ l hhd c 0, hbu, hbc, hbb, Int.toNat_natCast, Nat.zero_add]
              simp [List.append_assoc]
            · intro w hw hl
              rw [List.replicate_succ] at hw
              simp at hw
              subst hw
              exact hno (.inr hl)
            · refine Us.append (fun x hx => ?_) hus
              rw [(List.mem_replicate.mp hx).2]
              omega
        · rw [rdecL_err2 d n _ _ _ out _ _ _ hlt hv hk c2] at h
          injection h with h1 h2
          injection h2 with h2 h3
          exact absurd h2 c2
      · rw [rdecL_err1 d n _ _ out _ _ hlt hv c1] at h
        injection h with h1 h2
        injection h2 with h2 h3
        exact absurd h2 c1
    · rw [rdecL_done _ _ _ _ (by omega)] at h
      injection h with h1 h2
      injection h2 with h2 h3
      exact ⟨[], by simp [h1], by simp [enc, h3], noLast_none out, Us.nil, by rw [← h1]; omega⟩
end Go.Proofs.Ytdkhnkbhgaobdaa.Runs
