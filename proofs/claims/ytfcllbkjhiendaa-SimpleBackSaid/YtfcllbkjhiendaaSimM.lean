/- Layer 6: how many words numbers take. -/
import Derived.Test.YtfcllbkjhiendaaSimL
namespace Go.Proofs.Ytfcllbkjhiendaa.Sim
open Go.RowKit Go.Proofs.Ytfcllbkjhiendaa.P Go.Proofs.Ytfcllbkjhiendaa.Kit Go.Proofs.Ytfcllbkjhiendaa.Var Go.Proofs.YtfcllbkjhiendaaW.PrintWords Go.Proofs.YtfcllbkjhiendaaW.PrintLast Go.Proofs.YtfcllbkjhiendaaW.PrintMore
set_option linter.unusedVariables false
set_option linter.unusedSimpArgs false

theorem or_bd (a : Int) (j : Nat) (hj : j < 60) (h0 : 0 ≤ a) (h1 : a < 1152921504606846976) : 2 ^ j ≤ Go.bits .or .u64 a (2 ^ j) ∧ Go.bits .or .u64 a (2 ^ j) < 1152921504606846976 := by
  obtain ⟨n, rfl⟩ := Int.eq_ofNat_of_zero_le h0
  have hn : n < 2 ^ 60 := by omega
  have hj2 : 2 ^ j < 2 ^ 60 := Nat.pow_lt_pow_right (by decide) hj
  have h64 : 2 ^ 60 < 2 ^ 64 := by decide
  have e := (bits_nat .u64 64 (by decide) k64_wraps n (2 ^ j) (by omega) (by omega)).2
  have e2 : ((2 ^ j : Nat) : Int) = 2 ^ j := by simp
  rw [e2] at e
  rw [e]
  have h2 : n ||| 2 ^ j < 2 ^ 60 := Nat.or_lt_two_pow hn hj2
  have h3 : 2 ^ j ≤ n ||| 2 ^ j := Nat.right_le_or
  refine ⟨by rw [← e2]; exact_mod_cast h3, ?_⟩
  have : ((n ||| 2 ^ j : Nat) : Int) < ((2 ^ 60 : Nat) : Int) := by exact_mod_cast h2
  simpa using this
/-- A number of 31 bits or more ahead: a word of its own. -/
theorem find_great (x : Int) (t : List Int) (hx : 2 ^ 31 ≤ x) : findS 15 0 (x :: t) = 15 := by
  have key : ∀ s, s < 15 → fitsB (x :: t) s = false := by
    intro s hs
    have f : 1 ≤ nn s ∧ (2 : Int) ^ ww s ≤ 2 ^ 30 := by
      have kk : ∀ s : Fin 15, 1 ≤ nn (s : Nat) ∧ (2 : Int) ^ ww (s : Nat) ≤ 2 ^ 30 := by decide +kernel
      exact kk ⟨s, hs⟩
    unfold fitsB
    split
    · rfl
    · obtain ⟨d, hd⟩ : ∃ d, nn s = d + 1 := ⟨nn s - 1, by omega⟩
      rw [hd, fitsN, if_neg]
      show ¬ x < 2 ^ ww s
      have e1 : (2 : Int) ^ 31 = 2147483648 := by decide
      have e2 : (2 : Int) ^ 30 = 1073741824 := by decide
      rw [e1] at hx
      rw [e2] at f
      omega
  have go : ∀ d s, s + d = 15 → findS d s (x :: t) = 15 := by
    intro d
    induction d with
    | zero =>
      intro s hs
      rw [findS]
      omega
    | succ d ih =>
      intro s hs
      rw [findS, if_neg (by rw [key s (by omega)]; decide)]
      exact ih (s + 1) (by omega)
  exact go 15 0 rfl
theorem great_len (d : Nat) : ∀ l : List Int, (∀ x ∈ l, 2 ^ 31 ≤ x) → l.length ≤ d → (sEncN d l).length = 8 * l.length := by
  induction d with
  | zero =>
    intro l _ h
    rw [List.eq_nil_of_length_eq_zero (show l.length = 0 by omega)]
    rfl
  | succ d ih =>
    intro l hx h
    cases l with
    | nil => simp [sEncN]
    | cons x t =>
      rw [sEncN_step d (x :: t) (by simp), find_great x t (hx x (by simp)), List.length_append, fixB_length, show nn 15 = 1 from rfl, List.drop_succ_cons, List.drop_zero, ih t (fun y hy => hx y (by simp [hy])) (by simpa using h), List.length_cons]
      omega
theorem words_len (d : Nat) : ∀ l : List Int, (∀ x ∈ l, x < 2 ^ 60) → l.length ≤ d → (sEncN d l).length % 8 = 0 ∧ 8 * l.length ≤ 240 * (sEncN d l).length := by
  induction d with
  | zero =>
    intro l _ h
    rw [List.eq_nil_of_length_eq_zero (show l.length = 0 by omega)]
    exact ⟨rfl, Nat.le_refl _⟩
  | succ d ih =>
    intro l hx h
    cases hl : l with
    | nil => simp [sEncN]
    | cons x t =>
      rw [← hl]
      have h0 : 0 < l.length := by rw [hl]; simp
      obtain ⟨q1, q2, q3⟩ := findS_fits l h0 hx 15 0 rfl
      obtain ⟨f1, f2, f3, f4⟩ := room_facts (findS 15 0 l) (by omega)
      have := ih (l.drop (nn (findS 15 0 l))) (fun y hy => hx y (List.mem_of_mem_drop hy)) (by rw [List.length_drop]; omega)
      rw [List.length_drop] at this
      rw [sEncN_step d l h0, List.length_append, fixB_length]
      omega
theorem sEnc_bad (l : List Int) (hl : l.length ≤ 65536) (h : ¬ ∀ x ∈ l, x < 2 ^ 60) : sEnc l = ([], 1) := by
  unfold sEnc
  rw [if_neg (by omega), if_neg]
  intro h2
  apply h
  intro x hx
  obtain ⟨j, hj, rfl⟩ := List.getElem_of_mem hx
  have := small60_rd l l.length 0 h2 j (by omega) (by omega)
  rwa [rd_nat, List.getD_eq_getElem?_getD, List.getElem?_eq_getElem hj, Option.getD_some] at this
end Go.Proofs.Ytfcllbkjhiendaa.Sim
