/- For every number and count: as many of one number take at most 13 bytes; two lists (at most 300 numbers each) one behind the other take the bytes of both where no run goes on. No condition. -/
import Derived.Test.YtdkhnkbhgaobdaaRunsL
import Derived.Test.YtdkhnkbhgaobdaaPx5
namespace Go.Proofs.Ytdkhnkbhgaobdaa.Pure
open Go.RowKit Go.Proofs.Ytdkhnkbhgaobdaa.P Go.Proofs.Ytdkhnkbhgaobdaa.Kit Go.Proofs.Ytdkhnkbhgaobdaa.Var Go.Proofs.Ytdkhnkbhgaobdaa.Runs Go.Proofs.YtdkhnkbhgaobdaaW.PrintWords Go.Proofs.YtdkhnkbhgaobdaaW.PrintLast Go.Proofs.YtdkhnkbhgaobdaaW.PrintMore
set_option linter.unusedVariables false
set_option linter.unusedSimpArgs false

theorem enc_append (a b : List Int) (h : ∀ v, b.head? = some v → ¬ (0 < a.length ∧ rd a ((a.length - 1 : Nat) : Int) = v)) : enc 0 (a ++ b) = enc 0 a ++ enc 0 b := by
  revert b
  revert a
  refine run_ind ?_ ?_
  · intro b _
    simp [enc]
  · intro v c t ht ih b hb
    by_cases h0 : t = []
    · subst h0
      rw [List.append_nil] at hb ⊢
      have hne : b.head? ≠ some v := fun e => hb v e ⟨by simp, by
        have := last_rep [] v c
        rwa [List.nil_append] at this⟩
      have e2 := enc_run v [] (by simp) c 0
      rw [List.append_nil] at e2
      rw [enc_run v b hne c 0, e2]
      simp [enc]
    · obtain ⟨u, t', rfl⟩ : ∃ u t', t = u :: t' := List.exists_cons_of_ne_nil h0
      have hne : (u :: t' ++ b).head? ≠ some v := ht
      rw [List.append_assoc, enc_run v _ hne c 0, enc_run v _ ht c 0, ih b ?_]
      · simp [List.append_assoc]
      · intro w hw hl
        refine hb w hw ⟨by simp; omega, ?_⟩
        rw [← hl.2, rd_right _ _ _ (by simp; omega)]
        congr 1
        simp
        omega
theorem RunsOne : casketlaw07_RunsOne.Pure := by
  intro v n a b hv hn ha1 ha8 ha hb1 hb8 hb
  have hv := wfu64 hv
  have hn := wf64 hn
  refine Evn.get (g := fun k => casketlaw07_RunsOne.f k v n a b) ?_
  unfold casketlaw07_RunsOne.f
  refine Evn.bind awake_ev ?_
  have e1 : Go.bits .and .i64 n 65535 = n % 65536 := and_mask n 16 (by omega)
  rw [e1, wrap64_id (by omega) (by omega)]
  obtain ⟨m, hm⟩ : ∃ m : Nat, 1 + n % 65536 = (m : Int) := ⟨(1 + n % 65536).toNat, by omega⟩
  rw [hm]
  have hm1 : 1 ≤ m ∧ m ≤ 65536 := by omega
  have hj2 : ∀ x75 : Bool, (x75 = false → a.length ≤ 300 ∧ b.length ≤ 300 ∧ 0 < a.length ∧ 0 < b.length ∧ ¬ rd a ((a.length - 1 : Nat) : Int) = rd b 0) → Evn (fun k => casketlaw07_RunsOne.j2 k a b true x75) true := by
    intro x75 hx
    refine Evn.round ?_
    simp only [casketlaw07_RunsOne.j2]
    cases x75 with
    | true => exact Evn.pos (by trivial) (Evn.pure _)
    | false =>
      obtain ⟨h1, h2, h3, h4, h5⟩ := hx rfl
      have hua := us_of ha
      have hub := us_of hb
      have l1 := enc_length a 0 hua (by omega)
      have l2 := enc_length b 0 hub (by omega)
      have l3 := enc_length (a ++ b) 0 (hua.append hub) (by simp; omega)
      refine Evn.neg (by simp) (Evn.bind (Enc_ev a hua (by omega)) (Evn.bind (Enc_ev b hub (by omega)) (Evn.bindc rfl (Evn.pos (by simp; omega) (Evn.bindc rfl (Evn.pos (by simp; omega) ?_))))))
      rw [List.nil_append]
      refine Evn.bind (Enc_ev (a ++ b) (hua.append hub) (by simp; omega)) (Evn.pos (by trivial) (Evn.bindc rfl (Evn.pos (by simp; omega) (Evn.bindc rfl (Evn.pos (by simp; omega) ?_)))))
      rw [List.nil_append]
      have e := enc_append a b (fun u hu h => by
        cases b with
        | nil => cases hu
        | cons w b' =>
          have hw : w = u := by simpa using hu
          exact h5 (by rw [h.2, ← hw]; rfl))
      simp only [e]
      exact Evn.bind (Same_self _ (by simp; omega)) (Evn.pure _)
  have hj1 : Evn (fun k => casketlaw07_RunsOne.j1 k a b true false) true := by
    refine Evn.round ?_
    simp only [casketlaw07_RunsOne.j1]
    refine Evn.neg (by simp) ?_
    by_cases d1 : (a.length : Int) = 0
    · exact Evn.pos d1 (hj2 true (fun h => by cases h))
    refine Evn.neg d1 ?_
    by_cases d2 : (b.length : Int) = 0
    · exact Evn.pos d2 (hj2 true (fun h => by cases h))
    refine Evn.neg d2 ?_
    by_cases d3 : (a.length : Int) > 300
    · exact Evn.pos d3 (hj2 true (fun h => by cases h))
    refine Evn.neg d3 ?_
    by_cases d4 : (b.length : Int) > 300
    · exact Evn.pos d4 (hj2 true (fun h => by cases h))
    have w : wrap64 ((a.length : Int) - 1) = ((a.length - 1 : Nat) : Int) := by
      rw [wrap64_id (by omega) (by omega)]
      omega
    refine Evn.neg d4 ?_
    simp only [w]
    refine Evn.pos (by omega) (Evn.pos (by omega) (Evn.pos (by omega) ?_))
    exact hj2 _ (fun h => ⟨by omega, by omega, by omega, by omega, by simpa using h⟩)
  have hl : ∀ d i : Nat, i + d = m → Evn (fun k => casketlaw07_RunsOne.l0 k v a b true (m : Int) (List.replicate i v) (i : Int)) true := by
    intro d
    induction d with
    | zero =>
      intro i hi
      have hi : i = m := by omega
      subst hi
      have hu : Us (List.replicate i v) := fun x hx => by rw [(List.mem_replicate.mp hx).2]; exact hv
      refine Evn.round ?_
      simp only [casketlaw07_RunsOne.l0]
      refine Evn.neg (by omega) (Evn.bind (Enc_ev _ hu (by simp; omega)) (Evn.pos (by trivial) ?_))
      obtain ⟨c, rfl⟩ : ∃ c, i = c + 1 := ⟨i - 1, by omega⟩
      have e2 := enc_run v [] (by simp) c 0
      rw [List.append_nil, Nat.zero_add] at e2
      have l1 := vn_len10 v.toNat (by omega)
      have l2 := vn_le 3 c (by omega) (by omega)
      have hs : decide (((enc 0 (List.replicate (c + 1) v)).length : Int) > 13) = false := by
        rw [e2]
        simp [enc]
        omega
      simp only [hs]
      exact hj1
    | succ d ih =>
      intro i hi
      refine Evn.round ?_
      simp only [casketlaw07_RunsOne.l0]
      refine Evn.pos (by omega) (Evn.pos (by rw [List.length_replicate]; omega) ?_)
      rw [← List.replicate_succ', wrap64_id (by omega) (by omega)]
      exact ih (i + 1) (by omega)
  exact hl m 0 (by omega)

end Go.Proofs.Ytdkhnkbhgaobdaa.Pure
