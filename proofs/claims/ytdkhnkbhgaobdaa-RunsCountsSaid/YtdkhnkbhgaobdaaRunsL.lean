/- Numbers as runs: what the document's Decode comes to; the laws' own example. -/
import Derived.Test.YtdkhnkbhgaobdaaPx1
import Derived.Test.YtdkhnkbhgaobdaaRunsDec
import Derived.Test.YtdkhnkbhgaobdaaPx2
import Derived.Test.YtdkhnkbhgaobdaaPx3
import Derived.Test.YtdkhnkbhgaobdaaRunsT
namespace Go.Proofs.Ytdkhnkbhgaobdaa.Runs
open Go.RowKit Go.Proofs.Ytdkhnkbhgaobdaa.P Go.Proofs.Ytdkhnkbhgaobdaa.Kit Go.Proofs.Ytdkhnkbhgaobdaa.Var Go.Proofs.YtdkhnkbhgaobdaaW.PrintWords Go.Proofs.YtdkhnkbhgaobdaaW.PrintLast Go.Proofs.YtdkhnkbhgaobdaaW.PrintMore
set_option linter.unusedVariables false
set_option linter.unusedSimpArgs false

theorem rVarint_ev (b : List Int) (hb : Bytes b) (hl : b.length < 140737488355328) : Evn (fun k => casketref03_Varint.f k b) (cVarint b) := by
  obtain ⟨h0, h1, h2, h3⟩ := vread_n b hb
  unfold casketref03_Varint.f
  refine Evn.bind (rRead_ev b hb hl) ?_
  rw [if_pos h0, if_pos (by omega)]
  exact Evn.pure _
theorem rDec_inner (b : List Int) (n v : Int) (kn : Nat) (out : List Int) (R : List Int × Int) (hk : kn < 65536) (ho : out.length < 65536) (hR : Evn (fun k => casketref07_Decode.l0 k b n (out ++ List.replicate (kn + 1) v)) R) (d : Nat) :
    ∀ j, j + d = kn + 1 → Evn (fun k => casketref07_Decode.l1 k b n (out ++ List.replicate j v) v (kn : Int) (j : Int)) R := by
  induction d with
  | zero =>
    intro j hj
    have hj : j = kn + 1 := by omega
    subst hj
    refine Evn.succ hR fun k => ?_
    simp only [casketref07_Decode.l1]
    rw [if_neg (by omega)]
  | succ d ih =>
    intro j hj
    refine Evn.succ (ih (j + 1) (by omega)) fun k => ?_
    simp only [casketref07_Decode.l1]
    rw [if_pos (by omega), if_pos (by rw [List.length_append, List.length_replicate]; omega), List.append_assoc, ← List.replicate_succ', k64_id _ (by omega) (by omega)]
    rfl
theorem rDec_loop (d : Nat) : ∀ (n : Nat) (b out : List Int), Bytes b → b.length < 140737488355328 → n - out.length ≤ d → n ≤ 65536 → Evn (fun k => casketref07_Decode.l0 k b (n : Int) out) (rfin (rdecL d n b out)) := by
  have hdone : ∀ (d n : Nat) (b out : List Int), n ≤ out.length → Evn (fun k => casketref07_Decode.l0 k b (n : Int) out) (rfin (rdecL d n b out)) := by
    intro d n b out h
    rw [rdecL_done _ _ _ _ h]
    by_cases hb : 0 < b.length
    · refine Evn.succ (Evn.pure _) fun k => ?_
      simp only [casketref07_Decode.l0]
      rw [if_neg (by omega), if_pos (by omega), rfin3 _ _ _ (.inr ⟨rfl, List.length_pos_iff.mp hb⟩)]
    · refine Evn.succ (Evn.pure _) fun k => ?_
      simp only [casketref07_Decode.l0]
      rw [if_neg (by omega), if_neg (by omega)]
      unfold rfin
      rw [if_neg (by simp), if_neg hb]
  induction d with
  | zero => exact fun n b out _ _ hd _ => hdone 0 n b out (by omega)
  | succ d ih =>
    intro n b out hb hl hd hn
    by_cases hlt : out.length < n
    · obtain ⟨v, b1, e1, hv⟩ : ∃ v b1 e1, cVarint b = (v, b1, e1) := ⟨_, _, _, rfl⟩
      have hev := rVarint_ev b hb hl
      have hf := cVarint_facts b hb hl
      rw [hv] at hev hf
      by_cases c1 : e1 = 0
      · subst c1
        obtain ⟨kk, b2, e2, hk⟩ : ∃ kk b2 e2, cVarint b1 = (kk, b2, e2) := ⟨_, _, _, rfl⟩
        have hev2 := rVarint_ev b1 hf.2.2.1 hf.2.2.2
        have hf2 := cVarint_facts b1 hf.2.2.1 hf.2.2.2
        rw [hk] at hev2 hf2
        by_cases c2 : e2 = 0
        · subst c2
          obtain ⟨kn, rfl⟩ := Int.eq_ofNat_of_zero_le hf2.1
          obtain ⟨w1, w2, w3, -, -⟩ := rdec_facts n out.length (kn : Int) hn hlt hf2.1 hf2.2.1
          rw [rdecL_step d n _ _ _ out _ _ hlt hv hk, Int.toNat_natCast]
          by_cases c3 : ((n - out.length : Nat) : Int) ≤ (kn : Int)
          · rw [if_pos (.inl c3), rfin3 _ _ _ (.inl rfl)]
            refine Evn.round ?_
            simp only [casketref07_Decode.l0]
            refine Evn.pos (by omega) (Evn.bind hev (Evn.pos rfl (Evn.bind hev2 (Evn.pos rfl (Evn.pos (show (kn : Int) ≥ (IntKind.u64.wrap (wrap64 ((n : Int) - (out.length : Int)))) by rw [w1, w2]; exact c3) ?_)))))
            refine Evn.round ?_
            simp only [casketref07_Decode.j2]
            exact Evn.pos trivial (Evn.pure _)
          · have hno : ¬ (kn : Int) ≥ (IntKind.u64.wrap (wrap64 ((n : Int) - (out.length : Int)))) := by rw [w1, w2]; exact c3
            have hin := rDec_inner b2 (n : Int) v kn out (rfin (rdecL d n b2 (out ++ List.replicate (kn + 1) v))) (by omega) (by omega) (ih n b2 _ hf2.2.2.1 hf2.2.2.2 (by simp; omega) hn) (kn + 1) 0 (by omega)
            rw [List.replicate_zero, List.append_nil] at hin
            by_cases c4 : 0 < out.length
            · have w4 : wrap64 ((out.length : Int) - 1) = ((out.length - 1 : Nat) : Int) := by rw [w3]; omega
              by_cases c5 : rd out ((out.length - 1 : Nat) : Int) = v
              · rw [if_pos (.inr ⟨c4, c5⟩), rfin3 _ _ _ (.inl rfl)]
                refine Evn.round ?_
                simp only [casketref07_Decode.l0]
                refine Evn.pos (by omega) (Evn.bind hev (Evn.pos rfl (Evn.bind hev2 (Evn.pos rfl (Evn.neg hno (Evn.pos (by omega) (Evn.pos (by rw [w4]; omega) (Evn.pos (by rw [w4]; omega) ?_))))))))
                refine Evn.round ?_
                simp only [casketref07_Decode.j2, w4]
                exact Evn.pos (by simpa using c5) (Evn.pure _)
              · rw [if_neg (by rintro (h | h); exact c3 h; exact c5 h.2)]
                refine Evn.round ?_
                simp only [casketref07_Decode.l0]
                refine Evn.pos (by omega) (Evn.bind hev (Evn.pos rfl (Evn.bind hev2 (Evn.pos rfl (Evn.neg hno (Evn.pos (by omega) (Evn.pos (by rw [w4]; omega) (Evn.pos (by rw [w4]; omega) ?_))))))))
                refine Evn.round ?_
                simp only [casketref07_Decode.j2, w4]
                exact Evn.neg (by simpa using c5) hin
            · rw [if_neg (by rintro (h | h); exact c3 h; exact c4 h.1)]
              refine Evn.round ?_
              simp only [casketref07_Decode.l0]
              refine Evn.pos (by omega) (Evn.bind hev (Evn.pos rfl (Evn.bind hev2 (Evn.pos rfl (Evn.neg hno (Evn.neg (by omega) ?_))))))
              refine Evn.round ?_
              simp only [casketref07_Decode.j2]
              exact Evn.neg (by simp) hin
        · rw [rdecL_err2 d n _ _ _ out _ _ _ hlt hv hk c2, rfin_err _ _ _ c2]
          refine Evn.round ?_
          simp only [casketref07_Decode.l0]
          exact Evn.pos (by omega) (Evn.bind hev (Evn.pos rfl (Evn.bind hev2 (Evn.neg c2 (Evn.pure _)))))
      · rw [rdecL_err1 d n _ _ out _ _ hlt hv c1, rfin_err _ _ _ c1]
        refine Evn.round ?_
        simp only [casketref07_Decode.l0]
        exact Evn.pos (by omega) (Evn.bind hev (Evn.neg c1 (Evn.pure _)))
    · exact hdone _ _ _ _ (by omega)
theorem rDec_ev (b : List Int) (n : Int) (hb : Bytes b) (hl : b.length < 140737488355328) : Evn (fun k => casketref07_Decode.f k b n) (rdec b n) := by
  unfold casketref07_Decode.f rdec
  by_cases c0 : n < 0
  · rw [if_pos (.inl c0)]
    refine Evn.pos c0 (Evn.round ?_)
    simp only [casketref07_Decode.j0]
    exact Evn.pos trivial (Evn.pure _)
  · refine Evn.neg c0 (Evn.round ?_)
    simp only [casketref07_Decode.j0]
    by_cases c1 : n > 65536
    · rw [if_pos (.inr c1)]
      exact Evn.pos (by simpa using c1) (Evn.pure _)
    · rw [if_neg (by omega)]
      refine Evn.neg (by simpa using c1) ?_
      have := rDec_loop n.toNat n.toNat b [] hb hl (by omega) (by omega)
      rwa [show ((n.toNat : Nat) : Int) = n by omega] at this
theorem Dec_f (b : List Int) (n : Int) (hb : Bytes b) (hl : b.length < 140737488355328) : runs_Decode.f b n = some (rdec b n) := if_pos ⟨hb, hl⟩
theorem rdec_back (l : List Int) (hu : Us l) (hl : l.length ≤ 65536) : rdec (enc 0 l) (l.length : Int) = (l, 0) := by
  unfold rdec
  rw [if_neg (by omega), Int.toNat_natCast]
  have := rdecL_back l hu hl [] [] l.length l.length (noLast_nil l) (by simp) (by omega)
  rw [List.append_nil, List.nil_append] at this
  rw [this]
  rfl
theorem same_ev (a b : List Int) (hs : a.length < 140737488355328) : Evn (fun k => casketlaw07_same.f k a b) (decide (a = b)) := by
  unfold casketlaw07_same.f
  exact Evn.bind (Same5_ev a b hs) (Evn.pure _)
theorem awake_ev : Evn (fun k => casketlaw07_awake.f k) true := by
  have hu : Us [5, 5, 5, 9] := by
    intro x hx
    simp at hx
    omega
  have he : enc 0 [5, 5, 5, 9] = [5, 2, 9, 0] := by
    simp [enc, vn_small]
  have h1 := Enc_ev [5, 5, 5, 9] hu (by decide)
  have h2 := rdec_back [5, 5, 5, 9] hu (by decide)
  rw [he] at h1 h2
  unfold casketlaw07_awake.f
  refine Evn.bind h1 (Evn.bindc (Dec_f _ _ (by rw [← he]; exact enc_bytes _ _) (by decide)) ?_)
  rw [show rdec [5, 2, 9, 0] 4 = ([5, 5, 5, 9], 0) from h2]
  refine Evn.pos rfl (Evn.bind (Same_ev _ _ (by decide)) (Evn.pos (by decide) (Evn.pos rfl (Evn.bind (same_ev _ _ (by decide)) ((Evn.pure _).eq (by decide))))))
theorem rdec_more (l : List Int) (hu : Us l) (hl : l.length ≤ 65536) : rdec (enc 0 l ++ [0]) (l.length : Int) = ([], 3) := by
  unfold rdec
  rw [if_neg (by omega), Int.toNat_natCast, rdecL_back l hu hl [] [0] l.length l.length (noLast_nil l) (by simp) (by omega)]
  rfl
theorem rdec_less (l : List Int) (hu : Us l) (hl : l.length ≤ 65536) (m : Nat) (hm : m < l.length) : rdec (enc 0 l) (m : Int) = ([], 3) := by
  unfold rdec
  rw [if_neg (by omega), Int.toNat_natCast]
  have := rdecL_less l hu hl [] [] m m (noLast_nil l) (by simp) (by simpa using hm) (by simp)
  rw [List.append_nil] at this
  exact this
theorem rdec_cut (l : List Int) (hu : Us l) (hl : l.length ≤ 65536) (k : Nat) (hk : k < (enc 0 l).length) : rdec ((enc 0 l).take k) (l.length : Int) = ([], 2) := by
  unfold rdec
  rw [if_neg (by omega), Int.toNat_natCast]
  exact rdecL_cut l hu hl [] l.length l.length k (noLast_nil l) (by simp) (by omega) hk
theorem rfin_zero (r : List Int × Int × List Int) (l : List Int) (h : rfin r = (l, 0)) : r = (l, 0, []) := by
  obtain ⟨o, w, b⟩ := r
  unfold rfin at h
  split at h
  · next hw =>
    injection h with h1 h2
    exact absurd h2 hw
  · next hw =>
    split at h
    · injection h with h1 h2
      exact absurd h2 (by decide)
    · next hb =>
      injection h with h1 h2
      have hw0 : w = 0 := by simpa using hw
      have hb0 : b = [] := by simpa using hb
      rw [show o = l from h1, hw0, hb0]
theorem rfin_err_nil (r : List Int × Int × List Int) (h : (rfin r).2 ≠ 0) : (rfin r).1 = [] := by
  unfold rfin at h ⊢
  split
  · rfl
  · next hw =>
    rw [if_neg hw] at h
    split
    · rfl
    · next hb =>
      rw [if_neg hb] at h
      exact absurd rfl h
theorem rdec_only (b : List Int) (n : Int) (hb : Bytes b) (l : List Int) (h : rdec b n = (l, 0)) : b = enc 0 l ∧ Us l ∧ (l.length : Int) = n ∧ n ≤ 65536 := by
  unfold rdec at h
  split at h
  · injection h with h1 h2
    exact absurd h2 (by decide)
  · have h := rfin_zero _ _ h
    obtain ⟨l', e1, e2, e3, e4, e5⟩ := rdecL_only n.toNat n.toNat b [] l [] hb (by omega) (by simp) (by omega) h
    rw [List.nil_append] at e1
    rw [List.append_nil] at e2
    subst e1
    exact ⟨e2, e4, by omega, by omega⟩
theorem rdec_err (b : List Int) (n : Int) (h : (rdec b n).2 ≠ 0) : (rdec b n).1 = [] := by
  unfold rdec at h ⊢
  split
  · rfl
  · next hn =>
    rw [if_neg hn] at h
    exact rfin_err_nil _ h
theorem rdec_len (b : List Int) (n : Int) (hb : Bytes b) : (rdec b n).1.length ≤ 65536 := by
  by_cases h : (rdec b n).2 = 0
  · obtain ⟨-, -, e, e2⟩ := rdec_only b n hb (rdec b n).1 (Prod.ext_iff.mpr ⟨rfl, h⟩)
    omega
  · rw [rdec_err b n h]
    simp
end Go.Proofs.Ytdkhnkbhgaobdaa.Runs
