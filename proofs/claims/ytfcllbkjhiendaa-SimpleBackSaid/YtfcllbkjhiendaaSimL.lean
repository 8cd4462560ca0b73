/- Layer 6: the document's example, and plain laws that several statements share. -/
import Derived.Test.YtfcllbkjhiendaaSim2
import Derived.Test.YtfcllbkjhiendaaPx5
import Derived.Test.YtfcllbkjhiendaaSame5
namespace Go.Proofs.Ytfcllbkjhiendaa.Sim
open Go.RowKit Go.Proofs.Ytfcllbkjhiendaa.P Go.Proofs.Ytfcllbkjhiendaa.Kit Go.Proofs.Ytfcllbkjhiendaa.Var Go.Proofs.YtfcllbkjhiendaaW.PrintWords Go.Proofs.YtfcllbkjhiendaaW.PrintLast Go.Proofs.YtfcllbkjhiendaaW.PrintMore
set_option linter.unusedVariables false
set_option linter.unusedSimpArgs false

theorem us_of {l : List Int} (h : ∀ x ∈ l, (Lit.int .u64 x).wf = true) : Us l := fun x hx => wfu64 (h x hx)
theorem same_ev (a b : List Int) (hs : a.length < 140737488355328) : Evn (fun k => casketlaw06_same.f k a b) (decide (a = b)) := by
  unfold casketlaw06_same.f
  exact Evn.bind (Same5_ev a b hs) (Evn.pure _)
theorem awake_ev : Evn (fun k => casketlaw06_awake.f k) true := by
  have e1 : sEnc [1, 2, 3] = ([208, 0, 1, 0, 0, 32, 0, 3], 0) := by decide +kernel
  have e2 : sDec [208, 0, 1, 0, 0, 32, 0, 3] 3 = ([1, 2, 3], 0) := by decide +kernel
  have hu : Us [1, 2, 3] := by intro x hx; simp at hx; omega
  have hb : Bytes [208, 0, 1, 0, 0, 32, 0, 3] := by intro x hx; simp at hx; omega
  unfold casketlaw06_awake.f
  refine Evn.bindc (Enc_f _ hu (by decide)) (Evn.bind (Dec_ev _ hb (by decide) 3) ?_)
  rw [e1, e2]
  refine Evn.pos rfl (Evn.bind (Same_self _ (by decide)) (Evn.pos rfl (Evn.pos rfl (Evn.bind (same_ev _ _ (by decide)) ?_))))
  exact (Evn.pure _).eq (by decide)
theorem sEnc_len (l : List Int) : (sEnc l).1.length ≤ 524288 := by
  unfold sEnc
  split
  · simp
  · split
    · have := sEncN_len l.length l
      simp only
      omega
    · simp
theorem fin6_ok {b0 : List Int} {n : Nat} {out s : List Int} {l : List Int} (h : fin6 b0 n out s = (l, 0)) : out = l ∧ out.length ≤ n ∧ s = [] ∧ sEnc l = (b0, 0) := by
  unfold fin6 at h
  split at h
  · injection h with h1 h2; cases h2
  · split at h
    · injection h with h1 h2; cases h2
    · split at h
      · next h3 =>
        injection h with h1 h2
        subst h1
        exact ⟨rfl, by omega, List.eq_nil_of_length_eq_zero (by omega), h3⟩
      · injection h with h1 h2; cases h2
theorem fin6_err {b0 : List Int} {n : Nat} {out s : List Int} (h : (fin6 b0 n out s).2 ≠ 0) : (fin6 b0 n out s).1 = [] := by
  unfold fin6 at h ⊢
  split at h
  · rw [if_pos (by assumption)]
  · rw [if_neg (by assumption)]
    split at h
    · rw [if_pos (by assumption)]
    · rw [if_neg (by assumption)]
      split at h
      · exact absurd rfl h
      · rw [if_neg (by assumption)]
theorem sDecL_ok (b0 : List Int) (n : Nat) (d : Nat) : ∀ (out s l : List Int), n ≤ out.length + d → Bytes s → sDecL b0 n d out s = (l, 0) → l.length = n ∧ sEnc l = (b0, 0) := by
  have last : ∀ (out s l : List Int), n ≤ out.length → fin6 b0 n out s = (l, 0) → l.length = n ∧ sEnc l = (b0, 0) := by
    intro out s l h h1
    obtain ⟨rfl, h2, _, h3⟩ := fin6_ok h1
    exact ⟨by omega, h3⟩
  induction d with
  | zero =>
    intro out s l h hs h1
    rw [sDecL] at h1
    exact last out s l (by omega) h1
  | succ d ih =>
    intro out s l h hs h1
    rw [sDecL] at h1
    split at h1
    · split at h1
      · injection h1 with h2 h3; cases h3
      · obtain ⟨b0, b1⟩ := be8 (s.take 8) (hs.take 8) (by simp; omega)
        obtain ⟨q1, q2, q3⟩ := unW_facts _ b0 b1
        exact ih _ _ l (by rw [List.length_append]; omega) (hs.drop 8) h1
    · exact last out s l (by omega) h1
theorem sDecL_err (b0 : List Int) (n : Nat) (d : Nat) : ∀ (out s : List Int), (sDecL b0 n d out s).2 ≠ 0 → (sDecL b0 n d out s).1 = [] := by
  induction d with
  | zero =>
    intro out s h
    rw [sDecL] at h ⊢
    exact fin6_err h
  | succ d ih =>
    intro out s h
    rw [sDecL] at h ⊢
    split at h
    · rw [if_pos (by assumption)]
      split at h
      · rw [if_pos (by assumption)]
      · rw [if_neg (by assumption)]
        exact ih _ _ h
    · rw [if_neg (by assumption)]
      exact fin6_err h
theorem sDec_ok (b : List Int) (hb : Bytes b) (n : Int) (l : List Int) (h : sDec b n = (l, 0)) : (l.length : Int) = n ∧ sEnc l = (b, 0) := by
  unfold sDec at h
  split at h
  · injection h with h1 h2; cases h2
  · obtain ⟨h1, h2⟩ := sDecL_ok b n.toNat n.toNat [] b l (by simp) hb h
    exact ⟨by omega, h2⟩
theorem sDec_err (b : List Int) (n : Int) (h : (sDec b n).2 ≠ 0) : (sDec b n).1 = [] := by
  unfold sDec at h ⊢
  split at h
  · rw [if_pos (by assumption)]
  · rw [if_neg (by assumption)]
    exact sDecL_err _ _ _ _ _ h
theorem sEnc_us {l : List Int} {b : List Int} (h : sEnc l = (b, 0)) : l.length ≤ 65536 ∧ ∀ x ∈ l, x < 2 ^ 60 := by
  unfold sEnc at h
  split at h
  · injection h with h1 h2; cases h2
  · split at h
    · next h3 =>
      refine ⟨by omega, fun x hx => ?_⟩
      obtain ⟨j, hj, rfl⟩ := List.getElem_of_mem hx
      have := small60_rd l l.length 0 h3 j (by omega) (by omega)
      rwa [rd_nat, List.getD_eq_getElem?_getD, List.getElem?_eq_getElem hj, Option.getD_some] at this
    · injection h with h1 h2; cases h2
theorem sDecL_us (b0 : List Int) (n : Nat) (d : Nat) : ∀ (out s : List Int), (∀ x ∈ out, 0 ≤ x ∧ x < 2 ^ 60) → Bytes s → ∀ x ∈ (sDecL b0 n d out s).1, 0 ≤ x ∧ x < 2 ^ 60 := by
  have last : ∀ (out s : List Int), (∀ x ∈ out, 0 ≤ x ∧ x < 2 ^ 60) → ∀ x ∈ (fin6 b0 n out s).1, 0 ≤ x ∧ x < 2 ^ 60 := by
    intro out s h x hx
    unfold fin6 at hx
    split at hx
    · cases hx
    · split at hx
      · cases hx
      · split at hx
        · exact h x hx
        · cases hx
  induction d with
  | zero =>
    intro out s h hs
    rw [sDecL]
    exact last out s h
  | succ d ih =>
    intro out s h hs
    rw [sDecL]
    split
    · split
      · intro x hx; cases hx
      · obtain ⟨b0, b1⟩ := be8 (s.take 8) (hs.take 8) (by simp; omega)
        obtain ⟨q1, q2, q3⟩ := unW_facts _ b0 b1
        exact ih _ _ (fun x hx => (List.mem_append.1 hx).elim (h x) (q3 x)) (hs.drop 8)
    · exact last out s h
theorem sDec_us (b : List Int) (hb : Bytes b) (n : Int) : ∀ x ∈ (sDec b n).1, 0 ≤ x ∧ x < 2 ^ 60 := by
  unfold sDec
  split
  · intro x hx; cases hx
  · exact sDecL_us _ _ _ _ _ (fun x hx => by cases hx) hb
end Go.Proofs.Ytfcllbkjhiendaa.Sim
