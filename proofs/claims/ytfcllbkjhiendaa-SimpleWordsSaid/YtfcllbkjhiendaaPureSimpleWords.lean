/- For every two numbers: noughts take no fewer words than 240 of them a word, numbers of 31 to 60 bits a word each. No condition. -/
import Derived.Test.YtfcllbkjhiendaaSimM
import Derived.Test.YtfcllbkjhiendaaPx10
namespace Go.Proofs.Ytfcllbkjhiendaa.Pure
open Go.RowKit Go.Proofs.Ytfcllbkjhiendaa.P Go.Proofs.Ytfcllbkjhiendaa.Kit Go.Proofs.Ytfcllbkjhiendaa.Var Go.Proofs.Ytfcllbkjhiendaa.Sim Go.Proofs.YtfcllbkjhiendaaW.PrintWords Go.Proofs.YtfcllbkjhiendaaW.PrintLast Go.Proofs.YtfcllbkjhiendaaW.PrintMore
set_option linter.unusedVariables false
set_option linter.unusedSimpArgs false

theorem words_loop (v : Int) (h0 : 0 ≤ v) (h1 : v < 18446744073709551616) (m : Nat) (hm : m < 512) (n : List Int) (hn : n.length < 100000) (hn8 : n.length % 8 = 0) (hn2 : 8 * m ≤ 240 * n.length) (d : Nat) : ∀ (i : Nat) (g : List Int), i + d = m % 64 → g.length = i → (∀ x ∈ g, 2 ^ 31 ≤ x ∧ x < 1152921504606846976) → Evn (fun k => casketlaw06_SimpleWords.l0 k v true (m : Int) n 0 g (i : Int)) true := by
  have e63 : Go.bits .and .i64 (m : Int) 63 = ((m % 64 : Nat) : Int) := by
    have h := and_mask (m : Int) 6 (by omega)
    rw [show (2 : Int) ^ 6 = 64 by decide] at h
    rw [show (63 : Int) = 64 - 1 by decide, h]
    omega
  have hg0 : 0 ≤ v / 16 ∧ v / 16 < 1152921504606846976 := by omega
  have hor := or_bd (v / 16) 31 (by decide) hg0.1 hg0.2
  rw [show (2 : Int) ^ 31 = 2147483648 by decide] at hor ⊢
  induction d with
  | zero =>
    intro i g hi hg hx
    have hu : Us g := fun x h => ⟨by have := (hx x h).1; omega, by have := (hx x h).2; omega⟩
    have h60 : ∀ x ∈ g, x < 2 ^ 60 := fun x h => by
      have := (hx x h).2
      rwa [show (2 : Int) ^ 60 = 1152921504606846976 by decide]
    have hl : (sEncN g.length g).length = 8 * g.length := great_len g.length g (fun x h => by rw [show (2 : Int) ^ 31 = 2147483648 by decide]; exact (hx x h).1) (Nat.le_refl _)
    have w1 : wrap64 (8 * (wrap64 (Int.tdiv (wrap64 ((m : Int) + 239)) 240))) = ((8 * ((m + 239) / 240) : Nat) : Int) := by
      rw [wrap64_id (n := (m : Int) + 239) (by omega) (by omega), k_tdiv _ _ (by omega), wrap64_id (n := ((m : Int) + 239) / 240) (by omega) (by omega), wrap64_id (by omega) (by omega)]
      omega
    have w2 : wrap64 (8 * (g.length : Int)) = ((8 * g.length : Nat) : Int) := by
      rw [wrap64_id (by omega) (by omega)]
      omega
    refine Evn.round ?_
    simp only [casketlaw06_SimpleWords.l0, e63, w1, w2]
    clear w1 w2 e63
    refine Evn.neg (by omega) (Evn.bindc (Enc_f g hu (by omega)) ?_)
    rw [sEnc_ok g (by omega) h60]
    refine Evn.pos (by trivial) (Evn.pos (by trivial) (Evn.pos (by omega) (Evn.pos (by omega) (Evn.pos (by trivial) ?_))))
    exact (Evn.pure _).eq (by simp [hl])
  | succ d ih =>
    intro i g hi hg hx
    have w0 := wrap_n i (by omega)
    refine Evn.round ?_
    simp only [casketlaw06_SimpleWords.l0, e63, w0]
    clear w0
    refine Evn.pos (by omega) (Evn.pos (by omega) ?_)
    refine ih (i + 1) _ (by omega) (by simp [hg]) fun x h => ?_
    rcases List.mem_append.1 h with h | h
    · exact hx x h
    · rw [List.mem_singleton] at h
      rw [h]
      exact hor
theorem SimpleWords : casketlaw06_SimpleWords.Pure := by
  intro a0 v h0 h1
  obtain ⟨v0, v1⟩ := wfu64 h1
  refine Evn.get (g := fun k => casketlaw06_SimpleWords.f k a0 v) ?_
  unfold casketlaw06_SimpleWords.f
  have e1 : Go.bits .and .i64 a0 511 = ((a0 % 512).toNat : Int) := by
    have h := and_mask a0 9 (by omega)
    rw [show (2 : Int) ^ 9 = 512 by decide] at h
    rw [show (511 : Int) = 512 - 1 by decide, h]
    omega
  simp only [e1]
  obtain ⟨m, hm⟩ : ∃ m, (a0 % 512).toNat = m := ⟨_, rfl⟩
  have hm2 : m < 512 := by omega
  rw [hm]
  have hz : ∀ x ∈ List.replicate m (0 : Int), x = 0 := fun x hx => List.eq_of_mem_replicate hx
  have hu : Us (List.replicate m (0 : Int)) := fun x hx => by rw [hz x hx]; omega
  have h60 : ∀ x ∈ List.replicate m (0 : Int), x < 2 ^ 60 := fun x hx => by rw [hz x hx]; decide
  have hl : (List.replicate m (0 : Int)).length = m := List.length_replicate
  refine Evn.bind awake_ev (Evn.pos (by omega) (Evn.pos (by omega) ?_))
  rw [Int.toNat_natCast]
  refine Evn.bindc (Enc_f _ hu (by omega)) ?_
  rw [sEnc_ok _ (by omega) h60]
  obtain ⟨q1, q2⟩ := words_len _ _ h60 (Nat.le_refl _)
  have q3 := sEncN_len (List.replicate m (0 : Int)).length (List.replicate m (0 : Int))
  rw [hl] at q1 q2 q3 ⊢
  exact words_loop v v0 v1 m hm2 _ (by omega) q1 q2 (m % 64) 0 [] (by omega) rfl (fun x hx => by cases hx)
end Go.Proofs.Ytfcllbkjhiendaa.Pure
