/- For every number and all lists (at most 300 numbers are looked at): a number of 60 bits ahead takes a word of its own, and the list's words stay. No condition. -/
import Derived.Test.YtfcllbkjhiendaaSimM
import Derived.Test.YtfcllbkjhiendaaPx10
namespace Go.Proofs.Ytfcllbkjhiendaa.Pure
open Go.RowKit Go.Proofs.Ytfcllbkjhiendaa.P Go.Proofs.Ytfcllbkjhiendaa.Kit Go.Proofs.Ytfcllbkjhiendaa.Var Go.Proofs.Ytfcllbkjhiendaa.Sim Go.Proofs.YtfcllbkjhiendaaW.PrintWords Go.Proofs.YtfcllbkjhiendaaW.PrintLast Go.Proofs.YtfcllbkjhiendaaW.PrintMore
set_option linter.unusedVariables false
set_option linter.unusedSimpArgs false

theorem first_byte (x : Int) (h0 : 576460752303423488 ≤ x) (h1 : x < 1152921504606846976) (t s : List Int) : rd (fixB 8 (packB (x :: t) 15) ++ s) 0 / 16 = 15 := by
  have e : packB (x :: t) 15 = 17293822569102704640 + x := by
    unfold packB
    rw [show nn 15 = 1 from rfl, show ww 15 = 60 from rfl]
    simp only [packN]
    show ((15 : Nat) : Int) * 1152921504606846976 + (0 * 2 ^ 60 + x) * 2 ^ (60 - 1 * 60) = _
    simp only [Nat.one_mul, Nat.sub_self, Int.pow_zero, Int.mul_one, Int.zero_mul, Int.zero_add]
    omega
  rw [e]
  show (17293822569102704640 + x) / 2 ^ (8 * 7) % 256 / 16 = 15
  rw [show (2 : Int) ^ (8 * 7) = 72057594037927936 by decide]
  omega
theorem SimpleBehind : casketlaw06_SimpleBehind.Pure := by
  intro v a h0 hm h8 ha
  obtain ⟨v0, v1⟩ := wfu64 h0
  have hu := us_of ha
  refine Evn.get (g := fun k => casketlaw06_SimpleBehind.f k v a) ?_
  unfold casketlaw06_SimpleBehind.f
  refine Evn.bind awake_ev ?_
  by_cases c0 : (a.length : Int) > 300
  · exact Evn.pos c0 (Evn.pure _)
  have hor := or_bd (v / 16) 59 (by decide) (by omega) (by omega)
  rw [show (2 : Int) ^ 59 = 576460752303423488 by decide] at hor
  generalize Go.bits .or .u64 (v / 16) 576460752303423488 = x at hor ⊢
  have e60 : (2 : Int) ^ 60 = 1152921504606846976 := by decide
  have hu2 : Us (x :: a) := fun y hy => by
    rcases List.mem_cons.1 hy with rfl | hy
    · omega
    · exact hu y hy
  refine Evn.neg c0 (Evn.bindc rfl (Evn.pos (by simp; omega) ?_))
  rw [List.singleton_append]
  refine Evn.bindc (Enc_f (x :: a) hu2 (by simp; omega)) (Evn.bindc (Enc_f a hu (by omega)) ?_)
  by_cases c1 : ∀ y ∈ a, y < 2 ^ 60
  · have h60 : ∀ y ∈ x :: a, y < 2 ^ 60 := fun y hy => by
      rcases List.mem_cons.1 hy with rfl | hy
      · rw [e60]
        exact hor.2
      · exact c1 y hy
    have hf := find_great x a (by rw [show (2 : Int) ^ 31 = 2147483648 by decide]; omega)
    have hs : sEncN (a.length + 1) (x :: a) = fixB 8 (packB (x :: a) 15) ++ sEncN a.length a := by
      rw [sEncN_step a.length (x :: a) (by simp), hf, show nn 15 = 1 from rfl, List.drop_succ_cons, List.drop_zero]
    have hl := sEncN_len a.length a
    rw [sEnc_ok (x :: a) (by simp; omega) h60, sEnc_ok a (by omega) c1, List.length_cons, hs]
    have w1 : wrap64 (((sEncN a.length a).length : Int) + 8) = ((8 + (sEncN a.length a).length : Nat) : Int) := by
      rw [wrap64_id (by omega) (by omega)]
      omega
    simp only [w1, List.length_append, fixB_length]
    clear w1
    refine Evn.pos (by trivial) (Evn.pos (by trivial) (Evn.pos (by trivial) (Evn.pos (by trivial) (Evn.pos (by omega) ?_))))
    rw [show List.drop 8 (fixB 8 (packB (x :: a) 15) ++ sEncN a.length a) = sEncN a.length a by
      rw [List.drop_append, fixB_length, List.drop_eq_nil_of_le (by rw [fixB_length]; omega)]
      rfl]
    refine Evn.bind (Same_self _ (by omega)) (Evn.pos rfl (Evn.pos (by omega) ?_))
    rw [first_byte x hor.1 hor.2]
    exact Evn.pure _
  · have c2 : ¬ ∀ y ∈ x :: a, y < 2 ^ 60 := fun h => c1 fun y hy => h y (List.mem_cons_of_mem _ hy)
    rw [sEnc_bad (x :: a) (by simp; omega) c2, sEnc_bad a (by omega) c1]
    exact Evn.neg (by decide) (Evn.pos (by trivial) (Evn.pure _))
end Go.Proofs.Ytfcllbkjhiendaa.Pure
