/- Layer 19: what the document's answers come to, and Unpad. -/
import Derived.Test.YtoghmpdamflehaaPad
import Derived.Test.YtoghmpdamflehaaRefCur
import Derived.Test.YtoghmpdamflehaaRefFix
import Derived.Test.YtoghmpdamflehaaPx3
import Derived.Test.YtoghmpdamflehaaPx4
import Derived.Test.YtoghmpdamflehaaPx7
import Derived.Test.YtoghmpdamflehaaPx5
import Derived.Test.YtoghmpdamflehaaPx6
namespace Go.Proofs.Ytoghmpdamflehaa.PadL
open Go.RowKit Go.Proofs.Ytoghmpdamflehaa.P Go.Proofs.Ytoghmpdamflehaa.Kit Go.Proofs.Ytoghmpdamflehaa.Var Go.Proofs.YtoghmpdamflehaaW.PrintWords Go.Proofs.YtoghmpdamflehaaW.PrintLast Go.Proofs.YtoghmpdamflehaaW.PrintMore
set_option linter.unusedVariables false
set_option linter.unusedSimpArgs false

theorem awake_f : casketlaw19_awake.f = some true := by decide +kernel
theorem same_ev (a b : List Int) (hs : a.length < 140737488355328) : Evn (fun k => casketlaw19_same.f k a b) (decide (a = b)) := by
  unfold casketlaw19_same.f
  exact Evn.bind (Same_ev a b hs) (Evn.pure _)
theorem rSize_ev (k : Int) : Evn (fun f => casketref19_Size.f f k) (sizeP k) := by
  by_cases c0 : k < 0
  · unfold casketref19_Size.f
    refine Evn.pos c0 (Evn.round ?_)
    simp only [casketref19_Size.j0]
    refine Evn.pos trivial ?_
    rw [sizeP_eq, if_neg (by omega), if_neg (by omega), if_neg (by omega), if_neg (by omega), if_neg (by omega), if_neg (by omega), if_neg (by omega), if_neg (by omega), if_neg (by omega)]
    exact Evn.pure _
  · by_cases c1 : k > 8
    · unfold casketref19_Size.f
      refine Evn.neg c0 (Evn.round ?_)
      simp only [casketref19_Size.j0]
      refine Evn.pos (by simp; omega) ?_
      rw [sizeP_eq, if_neg (by omega), if_neg (by omega), if_neg (by omega), if_neg (by omega), if_neg (by omega), if_neg (by omega), if_neg (by omega), if_neg (by omega), if_neg (by omega)]
      exact Evn.pure _
    · obtain rfl | rfl | rfl | rfl | rfl | rfl | rfl | rfl | rfl : k = 0 ∨ k = 1 ∨ k = 2 ∨ k = 3 ∨ k = 4 ∨ k = 5 ∨ k = 6 ∨ k = 7 ∨ k = 8 := by omega
      all_goals exact Evn.of (fun f => casketref19_Size.mono _ f) 20 (by decide +kernel)
set_option maxHeartbeats 2000000 in
theorem bucket_of (n : Int) (h0 : 0 ≤ n) (j : Nat) (hj : j ≤ 8) (h1 : n + 4 ≤ sizeP (j : Int)) (h2 : j = 0 ∨ sizeP ((j : Int) - 1) < n + 4) : bucketP n = ((j : Int), 0) := by
  obtain rfl | rfl | rfl | rfl | rfl | rfl | rfl | rfl | rfl : j = 0 ∨ j = 1 ∨ j = 2 ∨ j = 3 ∨ j = 4 ∨ j = 5 ∨ j = 6 ∨ j = 7 ∨ j = 8 := by omega
  all_goals (rw [sizeP_eq] at h1 h2; simp at h1 h2; rw [bucketP_eq, if_neg (by omega)])
  all_goals (repeat (first | rw [if_pos (by omega)] | rw [if_neg (by omega)]))
  all_goals rfl
theorem rBucket_ev (n : Int) (hn : n < 140737488355328) : Evn (fun k => casketref19_Bucket.f k n) (bucketP n) := by
  unfold casketref19_Bucket.f
  by_cases c0 : n < 0
  · refine Evn.pos c0 ?_
    rw [bucketP_eq, if_pos c0]
    exact Evn.pure _
  · refine Evn.neg c0 ?_
    by_cases c1 : n > 4194300
    · refine Evn.pos c1 ?_
      rw [bucket_long n c1]
      exact Evn.pure _
    · refine Evn.neg c1 ?_
      have w4 : wrap64 (n + 4) = n + 4 := wrap64_id (by omega) (by omega)
      have s8 : sizeP 8 = 4194304 := by rw [sizeP_eq]; rfl
      have key : ∀ d j : Nat, j + d = 8 → (j = 0 ∨ sizeP ((j : Int) - 1) < n + 4) → Evn (fun k => casketref19_Bucket.l0 k n (j : Int)) (bucketP n) := by
        intro d
        induction d with
        | zero =>
          intro j hj h2
          obtain rfl : j = 8 := by omega
          refine Evn.round ?_
          simp only [casketref19_Bucket.l0, w4]
          refine Evn.bind (rSize_ev _) (Evn.neg (by clear w4; show ¬ sizeP 8 < n + 4; omega) ?_)
          rw [bucket_of n (by omega) 8 (by omega) (by clear w4; show n + 4 ≤ sizeP 8; omega) h2]
          exact Evn.pure _
        | succ d ih =>
          intro j hj h2
          refine Evn.round ?_
          simp only [casketref19_Bucket.l0, w4, wrap_n j (show j < 140737488355328 by omega)]
          refine Evn.bind (rSize_ev _) ?_
          by_cases c : sizeP (j : Int) < n + 4
          · exact Evn.pos c (ih (j + 1) (by omega) (.inr (by rw [show ((j + 1 : Nat) : Int) - 1 = (j : Int) by omega]; exact c)))
          · refine Evn.neg c ?_
            rw [bucket_of n (by omega) j (by omega) (by clear w4; omega) h2]
            exact Evn.pure _
      exact key 8 0 rfl (.inl rfl)
theorem Pad_f (b : List Int) (h : b.length < 140737488355328) : pad_Pad.f b = some (padP b) := if_pos h
theorem rPad_ev (b : List Int) (hl : b.length < 140737488355328) : Evn (fun k => casketref19_Pad.f k b) (padP b) := by
  unfold casketref19_Pad.f padP
  refine Evn.bind (rBucket_ev _ (by omega)) ?_
  by_cases c : 4194300 < b.length
  · rw [if_pos c, bucket_long _ (by omega)]
    exact Evn.neg (by decide) (Evn.pure _)
  · rw [if_neg c]
    obtain ⟨q1, q2, q3, q4, q5, q6⟩ := bucket_room (b.length : Int) (by omega) (by omega)
    refine Evn.pos q1 ?_
    rw [k64_id _ (by omega) (by omega)]
    refine Evn.bind (rFix_ev (b.length : Int) 4 (by decide)) (Evn.pos (by rw [fixB_length]; omega) (Evn.bindc rfl (Evn.bind (rSize_ev _) ?_)))
    have hl2 : (fixB 4 (b.length : Int) ++ b).length = 4 + b.length := by rw [List.length_append, fixB_length]
    have w : wrap64 (sizeP (bucketP (b.length : Int)).1 - ((fixB 4 (b.length : Int) ++ b).length : Int)) = (((sizeP (bucketP (b.length : Int)).1).toNat - 4 - b.length : Nat) : Int) := by
      rw [hl2, wrap64_id (by omega) (by omega)]
      omega
    rw [w]
    clear w
    refine Evn.pos (by omega) (Evn.pos (by rw [hl2, Int.toNat_natCast]; omega) ?_)
    rw [Int.toNat_natCast]
    exact Evn.pure _
theorem padP_len (b : List Int) (h : b.length ≤ 4194300) : (padP b).2 = 0 ∧ ((padP b).1.length : Int) = sizeP (bucketP (b.length : Int)).1 ∧ (padP b).1.length ≤ 4194304 ∧ (padP b).1.length % 64 = 0 ∧ 64 ≤ (padP b).1.length := by
  obtain ⟨q1, q2, q3, q4, q5, q6⟩ := bucket_room (b.length : Int) (by omega) (by omega)
  have hm : sizeP (bucketP (b.length : Int)).1 % 64 = 0 := by
    rw [sizeP_eq]
    repeat' split
    all_goals decide
  have e : padP b = (fixB 4 (b.length : Int) ++ b ++ List.replicate ((sizeP (bucketP (b.length : Int)).1).toNat - 4 - b.length) 0, 0) := if_neg (by omega)
  rw [e]
  simp only [List.length_append, fixB_length, List.length_replicate]
  refine ⟨trivial, ?_, ?_, ?_, ?_⟩ <;> omega
theorem padP_by (b : List Int) (hb : Bytes b) : Bytes (padP b).1 := by
  unfold padP
  split
  · exact Bytes.nil
  · refine Bytes.append (Bytes.append (fixB_bytes _ _) hb) fun x hx => ?_
    rw [List.eq_of_mem_replicate hx]
    omega
theorem padP_le (b : List Int) : (padP b).1.length ≤ 4194304 := by
  by_cases c : 4194300 < b.length
  · unfold padP
    rw [if_pos c]
    simp
  · exact (padP_len b (by omega)).2.2.1
/-! Unpad -/
def unpadP (b : List Int) : List Int × Int := if b.length < 4 then ([], 3) else if (b.length : Int) - 4 < be (b.take 4) 0 then ([], 3) else if padP ((b.drop 4).take (be (b.take 4) 0).toNat) = (b, 0) then ((b.drop 4).take (be (b.take 4) 0).toNat, 0) else ([], 3)
theorem be4 (b : List Int) (hb : Bytes b) : 0 ≤ be (b.take 4) 0 ∧ be (b.take 4) 0 < 18446744073709551616 := be8 _ (hb.take 4) (by simp; omega)
theorem Unpad_ev (b : List Int) (hb : Bytes b) (hl : b.length < 1000000000) : Evn (fun k => pad_Unpad.f k b) (unpadP b) := by
  have bad : ∀ n s, Evn (fun k => pad_Unpad.j0 k b n true s) ([], 3) := by
    intro n s
    refine Evn.round ?_
    simp only [pad_Unpad.j0]
    exact Evn.pos trivial (Evn.pure _)
  have hg : cgood b := ⟨hb, by omega⟩
  unfold pad_Unpad.f unpadP
  refine Evn.bindc (if_pos hg) (Evn.bindc (if_pos hg) ?_)
  rw [show cFixed b 4 = fixedP 4 b from cFixed_eq 4 (by decide) b]
  unfold fixedP
  by_cases c : b.length < 4
  · rw [if_pos c, if_pos c]
    exact Evn.neg (by simp) (bad _ _)
  · rw [if_neg c, if_neg c]
    obtain ⟨u0, u1⟩ := be4 b hb
    have hgd : cgood (b.drop 4) := ⟨hb.drop 4, by rw [List.length_drop]; omega⟩
    refine Evn.pos rfl ?_
    simp only
    refine Evn.bindc (if_pos hgd) ?_
    rw [k64_id _ (by omega) (by rw [List.length_drop]; omega)]
    simp only [List.length_drop]
    by_cases c2 : (b.length : Int) - 4 < be (b.take 4) 0
    · rw [if_pos c2, decide_eq_true (by omega)]
      exact bad _ _
    · rw [if_neg c2, decide_eq_false (by omega)]
      generalize be (b.take 4) 0 = n at *
      refine Evn.round ?_
      simp only [pad_Unpad.j0]
      rw [wrap64_id (by omega) (by omega)]
      refine Evn.neg (by decide) (Evn.bindc (if_pos hgd) ?_)
      have eb : cBytes (b.drop 4) n = ((b.drop 4).take n.toNat, (b.drop 4).drop n.toNat, 0) := by
        unfold cBytes
        rw [if_neg (by omega), if_neg (by rw [List.length_drop]; omega)]
      rw [eb]
      simp only
      have hol : ((b.drop 4).take n.toNat).length ≤ b.length := by rw [List.length_take, List.length_drop]; omega
      have hob : Bytes ((b.drop 4).take n.toNat) := (hb.drop 4).take _
      generalize (b.drop 4).take n.toNat = out at *
      refine Evn.bindc (Pad_f out (by omega)) ?_
      by_cases c3 : (padP out).2 = 0
      · refine Evn.pos c3 (Evn.bindc rfl ?_)
        rw [str_same _ _ (padP_by out hob) hb]
        by_cases c4 : (padP out).1 = b
        · have hp : padP out = (b, 0) := by rw [← c4, ← c3]
          rw [decide_eq_true c4, if_pos hp]
          exact Evn.pos rfl (Evn.pure _)
        · have hp : ¬ padP out = (b, 0) := fun h => c4 (by rw [h])
          rw [decide_eq_false c4, if_neg hp]
          exact Evn.neg (by decide) (Evn.pure _)
      · have hp : ¬ padP out = (b, 0) := fun h => c3 (by rw [h])
        rw [if_neg hp]
        exact Evn.neg c3 (Evn.pure _)
theorem rUnpad_ev (b : List Int) (hb : Bytes b) (hl : b.length < 1000000000) : Evn (fun k => casketref19_Unpad.f k b) (unpadP b) := by
  have bad : ∀ n s, Evn (fun k => casketref19_Unpad.j0 k b n s true) ([], 3) := by
    intro n s
    refine Evn.round ?_
    simp only [casketref19_Unpad.j0]
    exact Evn.pos trivial (Evn.pure _)
  unfold casketref19_Unpad.f unpadP
  refine Evn.bind (rFixed_ev 4 (by decide) b hb (by omega)) ?_
  unfold fixedP
  by_cases c : b.length < 4
  · rw [if_pos c, if_pos c]
    exact Evn.neg (by simp) (bad _ _)
  · rw [if_neg c, if_neg c]
    obtain ⟨u0, u1⟩ := be4 b hb
    refine Evn.pos rfl ?_
    simp only
    rw [k64_id _ (by omega) (by rw [List.length_drop]; omega)]
    simp only [List.length_drop]
    by_cases c2 : (b.length : Int) - 4 < be (b.take 4) 0
    · rw [if_pos c2, decide_eq_true (by omega)]
      exact bad _ _
    · rw [if_neg c2, decide_eq_false (by omega)]
      generalize be (b.take 4) 0 = n at *
      refine Evn.round ?_
      simp only [casketref19_Unpad.j0]
      have hol : ((b.drop 4).take n.toNat).length ≤ b.length := by rw [List.length_take, List.length_drop]; omega
      refine Evn.neg (by decide) (Evn.bindc rfl (Evn.pos (by omega) (Evn.pos (by rw [List.length_drop]; omega) (Evn.bindc rfl (Evn.pos (by rw [List.length_nil]; omega) (Evn.bindc rfl ?_))))))
      rw [List.nil_append]
      have hob : Bytes ((b.drop 4).take n.toNat) := (hb.drop 4).take _
      generalize (b.drop 4).take n.toNat = out at *
      refine Evn.bind (rPad_ev out (by omega)) ?_
      by_cases c3 : (padP out).2 = 0
      · refine Evn.pos c3 (Evn.bind (Same_ev _ b (by have := padP_le out; omega)) ?_)
        by_cases c4 : (padP out).1 = b
        · have hp : padP out = (b, 0) := by rw [← c4, ← c3]
          rw [decide_eq_true c4, if_pos hp]
          exact Evn.pos rfl (Evn.pure _)
        · have hp : ¬ padP out = (b, 0) := fun h => c4 (by rw [h])
          rw [decide_eq_false c4, if_neg hp]
          exact Evn.neg (by decide) (Evn.pure _)
      · have hp : ¬ padP out = (b, 0) := fun h => c3 (by rw [h])
        rw [if_neg hp]
        exact Evn.neg c3 (Evn.pure _)
theorem unpad_ok {b x : List Int} (h : unpadP b = (x, 0)) : padP x = (b, 0) := by
  unfold unpadP at h
  split at h
  · injection h with h1 h2; cases h2
  · split at h
    · injection h with h1 h2; cases h2
    · split at h
      · next h3 =>
        injection h with h1 h2
        rw [← h1]
        exact h3
      · injection h with h1 h2; cases h2
theorem unpad_cases (b : List Int) : (unpadP b).2 = 0 ∨ unpadP b = ([], 3) := by
  unfold unpadP
  split
  · exact .inr rfl
  · split
    · exact .inr rfl
    · split
      · exact .inl rfl
      · exact .inr rfl
theorem unpad_len (b : List Int) : (unpadP b).1.length ≤ b.length := by
  unfold unpadP
  split
  · simp
  · split
    · simp
    · split
      · simp only [List.length_take, List.length_drop]
        omega
      · simp
theorem unpad_pad (b : List Int) (hb : Bytes b) (h : b.length ≤ 4194300) : unpadP (padP b).1 = (b, 0) := by
  obtain ⟨q1, q2, q3, q4, q5⟩ := padP_len b h
  have e : padP b = (fixB 4 (b.length : Int) ++ b ++ List.replicate ((sizeP (bucketP (b.length : Int)).1).toNat - 4 - b.length) 0, 0) := if_neg (by omega)
  obtain ⟨z, hz⟩ : ∃ z, List.replicate ((sizeP (bucketP (b.length : Int)).1).toNat - 4 - b.length) (0 : Int) = z := ⟨_, rfl⟩
  rw [hz] at e
  have e1 : (padP b).1.take 4 = fixB 4 (b.length : Int) := by
    rw [e, List.append_assoc, List.take_append, fixB_length, List.take_of_length_le (by rw [fixB_length]; omega)]
    simp
  have e2 : (padP b).1.drop 4 = b ++ z := by
    rw [e, List.append_assoc, List.drop_append, fixB_length, List.drop_eq_nil_of_le (by rw [fixB_length]; omega)]
    rfl
  have e3 : be ((padP b).1.take 4) 0 = (b.length : Int) := by
    rw [e1, be_fixB, show (256 : Int) ^ 4 = 4294967296 by decide]
    omega
  have hlen : b.length + 4 ≤ (padP b).1.length := by
    rw [e]
    simp only [List.length_append, fixB_length]
    omega
  unfold unpadP
  rw [e3, e2, if_neg (by omega), if_neg (by omega), Int.toNat_natCast, List.take_left, if_pos (by rw [← q1])]
end Go.Proofs.Ytoghmpdamflehaa.PadL
