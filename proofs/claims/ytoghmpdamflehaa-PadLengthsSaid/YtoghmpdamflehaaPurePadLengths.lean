/- For every two numbers: how long bytes in their bucket are says of their length just the bucket. No condition. -/
import Derived.Test.YtoghmpdamflehaaPadL
import Derived.Test.YtoghmpdamflehaaPx3
namespace Go.Proofs.Ytoghmpdamflehaa.Pure
open Go.RowKit Go.Proofs.Ytoghmpdamflehaa.P Go.Proofs.Ytoghmpdamflehaa.Kit Go.Proofs.Ytoghmpdamflehaa.Var Go.Proofs.Ytoghmpdamflehaa.PadL Go.Proofs.YtoghmpdamflehaaW.PrintWords Go.Proofs.YtoghmpdamflehaaW.PrintLast Go.Proofs.YtoghmpdamflehaaW.PrintMore
set_option linter.unusedVariables false
set_option linter.unusedSimpArgs false

theorem mask12 (a : Int) : Go.bits .and .i64 a 4095 = ((a % 4096).toNat : Int) := by
  have h := and_mask a 12 (by omega)
  rw [show (2 : Int) ^ 12 = 4096 by decide] at h
  rw [show (4095 : Int) = 4096 - 1 by decide, h]
  omega
theorem lens (a : Nat) (h : a < 4096) : ∃ i : Nat, i ≤ 4 ∧ bucketP (a : Int) = ((i : Int), 0) ∧ (padP (List.replicate a 0)).2 = 0 ∧ ((padP (List.replicate a 0)).1.length : Int) = sizeP (i : Int) ∧ (i = 0 ∧ a ≤ 60 ∨ i = 1 ∧ 60 < a ∧ a ≤ 252 ∨ i = 2 ∧ 252 < a ∧ a ≤ 1020 ∨ i = 3 ∧ 1020 < a ∧ a ≤ 4092 ∨ i = 4 ∧ 4092 < a) := by
  have hl : (List.replicate a (0 : Int)).length = a := List.length_replicate
  have hp := padP_len (List.replicate a 0) (by omega)
  rw [hl] at hp
  have hb := bucketP_eq (a : Int)
  rw [if_neg (by omega)] at hb
  by_cases c0 : a ≤ 60
  · rw [if_pos (by omega)] at hb
    rw [hb] at hp ⊢
    exact ⟨0, by omega, rfl, hp.1, hp.2.1, by omega⟩
  · rw [if_neg (by omega)] at hb
    by_cases c1 : a ≤ 252
    · rw [if_pos (by omega)] at hb
      rw [hb] at hp ⊢
      exact ⟨1, by omega, rfl, hp.1, hp.2.1, by omega⟩
    · rw [if_neg (by omega)] at hb
      by_cases c2 : a ≤ 1020
      · rw [if_pos (by omega)] at hb
        rw [hb] at hp ⊢
        exact ⟨2, by omega, rfl, hp.1, hp.2.1, by omega⟩
      · rw [if_neg (by omega)] at hb
        by_cases c3 : a ≤ 4092
        · rw [if_pos (by omega)] at hb
          rw [hb] at hp ⊢
          exact ⟨3, by omega, rfl, hp.1, hp.2.1, by omega⟩
        · rw [if_neg (by omega), if_pos (by omega)] at hb
          rw [hb] at hp ⊢
          exact ⟨4, by omega, rfl, hp.1, hp.2.1, by omega⟩
theorem size_inj (i j : Nat) (hi : i ≤ 4) (hj : j ≤ 4) : (sizeP (i : Int) == sizeP (j : Int)) = ((i : Int) == (j : Int)) := by
  have key : ∀ i j : Fin 5, (sizeP ((i : Nat) : Int) == sizeP ((j : Nat) : Int)) = (((i : Nat) : Int) == ((j : Nat) : Int)) := by decide +kernel
  exact key ⟨i, by omega⟩ ⟨j, by omega⟩
theorem PadLengths : casketlaw19_PadLengths.Pure := by
  intro a0 a1 h0 h1
  unfold casketlaw19_PadLengths.f
  simp only [mask12]
  obtain ⟨a, ha⟩ : ∃ a, (a0 % 4096).toNat = a := ⟨_, rfl⟩
  obtain ⟨b, hb⟩ : ∃ b, (a1 % 4096).toNat = b := ⟨_, rfl⟩
  have ha2 : a < 4096 := by omega
  have hb2 : b < 4096 := by omega
  rw [ha, hb]
  obtain ⟨i, i1, i2, i3, i4, i5⟩ := lens a ha2
  obtain ⟨j, j1, j2, j3, j4, j5⟩ := lens b hb2
  rw [awake_f, Option.bind_some, if_pos (by omega), if_pos (by omega), Int.toNat_natCast, Pad_f _ (by rw [List.length_replicate]; omega), Option.bind_some, if_pos (by omega), if_pos (by omega), Int.toNat_natCast, Pad_f _ (by rw [List.length_replicate]; omega), Option.bind_some]
  unfold pad_Bucket.f pad_Size.f
  rw [i2, j2]
  simp only [Option.bind_some]
  rw [if_pos i3, if_pos j3, if_pos trivial, if_pos trivial, if_pos trivial, i4, j4, size_inj i j i1 j1]
  simp only [beq_self_eq_true, if_true, Option.bind_some]
  by_cases c : (a : Int) > (b : Int)
  · rw [if_pos c]
  · rw [if_neg c]
    exact congrArg some (decide_eq_true (by omega))
end Go.Proofs.Ytoghmpdamflehaa.Pure
