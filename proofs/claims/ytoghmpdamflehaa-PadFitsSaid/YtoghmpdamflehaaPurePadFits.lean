/- For every number: the bucket of so many bytes holds them and four, and the one below it does not. No condition. -/
import Derived.Test.YtoghmpdamflehaaPadL
import Derived.Test.YtoghmpdamflehaaPx4
namespace Go.Proofs.Ytoghmpdamflehaa.Pure
open Go.RowKit Go.Proofs.Ytoghmpdamflehaa.P Go.Proofs.Ytoghmpdamflehaa.Kit Go.Proofs.Ytoghmpdamflehaa.Var Go.Proofs.Ytoghmpdamflehaa.PadL Go.Proofs.YtoghmpdamflehaaW.PrintWords Go.Proofs.YtoghmpdamflehaaW.PrintLast Go.Proofs.YtoghmpdamflehaaW.PrintMore
set_option linter.unusedVariables false
set_option linter.unusedSimpArgs false

theorem fits_of (n : Int) (h0 : 0 ≤ n) (h : n ≤ 4194300) : ∃ j : Nat, j ≤ 8 ∧ bucketP n = ((j : Int), 0) ∧ n + 4 ≤ sizeP (j : Int) ∧ (j = 0 ∨ sizeP ((j : Int) - 1) < n + 4) := by
  have key : ∀ j : Nat, j ≤ 8 → n + 4 ≤ sizeP (j : Int) → (j = 0 ∨ sizeP ((j : Int) - 1) < n + 4) → ∃ j : Nat, j ≤ 8 ∧ bucketP n = ((j : Int), 0) ∧ n + 4 ≤ sizeP (j : Int) ∧ (j = 0 ∨ sizeP ((j : Int) - 1) < n + 4) := fun j hj h1 h2 => ⟨j, hj, bucket_of n h0 j hj h1 h2, h1, h2⟩
  have up : ∀ d j : Nat, j + d = 8 → (j = 0 ∨ sizeP ((j : Int) - 1) < n + 4) → ∃ j : Nat, j ≤ 8 ∧ bucketP n = ((j : Int), 0) ∧ n + 4 ≤ sizeP (j : Int) ∧ (j = 0 ∨ sizeP ((j : Int) - 1) < n + 4) := by
    intro d
    induction d with
    | zero =>
      intro j hj h2
      obtain rfl : j = 8 := by omega
      have s8 : sizeP ((8 : Nat) : Int) = 4194304 := by rw [sizeP_eq]; rfl
      exact key 8 (by omega) (by omega) h2
    | succ d ih =>
      intro j hj h2
      by_cases c : n + 4 ≤ sizeP (j : Int)
      · exact key j (by omega) c h2
      · exact ih (j + 1) (by omega) (.inr (by rw [show ((j + 1 : Nat) : Int) - 1 = (j : Int) by omega]; omega))
  exact up 8 0 rfl (.inl rfl)
theorem PadFits : casketlaw19_PadFits.Pure := by
  intro n hn
  obtain ⟨n0, n1⟩ := wf64 hn
  refine Evn.get (g := fun f => casketlaw19_PadFits.f f n) ?_
  unfold casketlaw19_PadFits.f
  refine Evn.bindc awake_f (Evn.bindc (a := bucketP n) rfl ?_)
  by_cases c0 : n < 0
  · rw [bucketP_eq, if_pos c0]
    exact Evn.neg (by decide) (Evn.pos (by trivial) (Evn.pos rfl (Evn.pos c0 (Evn.pos rfl (Evn.pure _)))))
  · by_cases c1 : n > 4194300
    · rw [bucket_long n c1]
      exact Evn.neg (by decide) (Evn.pos (by trivial) (Evn.pos rfl (Evn.neg c0 (Evn.pos c1 (Evn.pure _)))))
    · obtain ⟨j, hj, e, h1, h2⟩ := fits_of n (by omega) (by omega)
      rw [e]
      refine Evn.pos rfl (Evn.neg c0 ?_)
      rw [decide_eq_false c1]
      have w4 : wrap64 (n + 4) = n + 4 := wrap64_id (by omega) (by omega)
      have w1 : wrap64 ((j : Int) - 1) = (j : Int) - 1 := wrap64_id (by omega) (by omega)
      refine Evn.round ?_
      simp only [casketlaw19_PadFits.j0, w4, w1]
      clear w4 w1
      refine Evn.neg (by decide) (Evn.pos (by trivial) (Evn.pos (by omega) (Evn.pos (by omega) (Evn.bindc (a := sizeP (j : Int)) rfl (Evn.pos (by omega) ?_)))))
      by_cases c : (j : Int) = 0
      · exact Evn.pos c (Evn.pure _)
      · refine Evn.neg c (Evn.bindc (a := sizeP ((j : Int) - 1)) rfl ?_)
        exact (Evn.pure _).eq (decide_eq_true (by omega))
end Go.Proofs.Ytoghmpdamflehaa.Pure
