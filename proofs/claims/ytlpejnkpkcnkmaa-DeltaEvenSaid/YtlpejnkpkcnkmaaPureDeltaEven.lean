/- For every first number, step and count: of numbers equally far apart (they may go round) Diff by 2 is 0 behind the first two, Diff by 3 behind the first three. No condition. -/
import Derived.Test.YtlpejnkpkcnkmaaPlain
import Derived.Test.YtlpejnkpkcnkmaaPx5
namespace Go.Proofs.Ytlpejnkpkcnkmaa.Pure
open Go.RowKit Go.Proofs.Ytlpejnkpkcnkmaa.P Go.Proofs.Ytlpejnkpkcnkmaa.Kit Go.Proofs.Ytlpejnkpkcnkmaa.Plain Go.Proofs.YtlpejnkpkcnkmaaW.PrintWords Go.Proofs.YtlpejnkpkcnkmaaW.PrintLast Go.Proofs.YtlpejnkpkcnkmaaW.PrintMore
set_option linter.unusedVariables false
set_option linter.unusedSimpArgs false

theorem even_D1 (x : List Int) (st : Int) (h : ∀ i : Nat, i + 1 < x.length → rd x ((i + 1 : Nat) : Int) = wrap64 (rd x (i : Int) + st)) (hst : -9223372036854775808 ≤ st ∧ st ≤ 9223372036854775807) (hw : Wf x) (i : Nat) (h1 : 1 ≤ i) (hi : i < x.length) : rd (D 1 x) (i : Int) = st := by
  rw [show D 1 x = Pd 0 x from rfl, rd_Pd 0 x i hi, if_neg (by omega)]
  have e := h (i - 1) (by omega)
  rw [show i - 1 + 1 = i by omega] at e
  rw [e, show ((i : Int) - 1) = ((i - 1 : Nat) : Int) by omega]
  have := wf64 (hw _ (rd_mem x ((i - 1 : Nat) : Int) (by omega) (by omega)))
  unfold wrap64
  omega
theorem even_D2 (x : List Int) (st : Int) (h : ∀ i : Nat, i + 1 < x.length → rd x ((i + 1 : Nat) : Int) = wrap64 (rd x (i : Int) + st)) (hst : -9223372036854775808 ≤ st ∧ st ≤ 9223372036854775807) (hw : Wf x) (i : Nat) (h1 : 2 ≤ i) (hi : i < x.length) : rd (D 2 x) (i : Int) = 0 := by
  rw [show D 2 x = Pd 1 (D 1 x) from rfl, rd_Pd 1 _ i (by rw [D_length]; exact hi), if_neg (by omega), even_D1 x st h hst hw i (by omega) hi, show ((i : Int) - 1) = ((i - 1 : Nat) : Int) by omega, even_D1 x st h hst hw (i - 1) (by omega) (by omega), Int.sub_self]
  decide +kernel
theorem even_D3 (x : List Int) (st : Int) (h : ∀ i : Nat, i + 1 < x.length → rd x ((i + 1 : Nat) : Int) = wrap64 (rd x (i : Int) + st)) (hst : -9223372036854775808 ≤ st ∧ st ≤ 9223372036854775807) (hw : Wf x) (i : Nat) (h1 : 3 ≤ i) (hi : i < x.length) : rd (D 3 x) (i : Int) = 0 := by
  rw [show D 3 x = Pd 2 (D 2 x) from rfl, rd_Pd 2 _ i (by rw [D_length]; exact hi), if_neg (by omega), even_D2 x st h hst hw i (by omega) hi, show ((i : Int) - 1) = ((i - 1 : Nat) : Int) by omega, even_D2 x st h hst hw (i - 1) (by omega) (by omega), Int.sub_self]
  decide +kernel
theorem even_end (x a b : List Int) (ha : a.length = x.length) (hb : b.length = x.length) (hs : x.length < 17592186044416) (h2 : ∀ i : Nat, 2 ≤ i → i < x.length → rd a (i : Int) = 0) (h3 : ∀ i : Nat, 3 ≤ i → i < x.length → rd b (i : Int) = 0) (d i : Nat) (hi : i + d = x.length) : Evn (fun k => casketlaw04_DeltaEven.l1 k true x a b (i : Int)) true := by
  induction d generalizing i with
  | zero =>
    refine Evn.succ (Evn.pure _) fun k => ?_
    simp only [casketlaw04_DeltaEven.l1]
    rw [if_neg (by omega)]
  | succ d ih =>
    refine Evn.succ (ih (i + 1) (by omega)) fun k => ?_
    simp only [casketlaw04_DeltaEven.l1]
    rw [if_pos (by omega), show wrap64 ((i : Int) + 1) = ((i + 1 : Nat) : Int) by unfold wrap64; omega]
    by_cases c2 : 2 ≤ i
    · rw [if_pos (by omega), if_pos (by omega), if_pos (by omega), if_pos (h2 i c2 (by omega))]
      by_cases c3 : 3 ≤ i
      · rw [if_pos (by omega), if_pos (by omega), if_pos (h3 i c3 (by omega))]
      · rw [if_neg (by omega)]
    · rw [if_neg (by omega), if_neg (by omega)]
theorem even_loop (st n : Int) (hn : n ≤ 127) (hst : -9223372036854775808 ≤ st ∧ st ≤ 9223372036854775807) (cnt : Int) (hc : Go.bits .and .i64 cnt 127 = n) (d : Nat) (x : List Int) (nx : Int) (hd : ((x.length + d : Nat) : Int) = max n (x.length : Int)) (hx : x.length ≤ 127) (hnx : (Lit.int .i64 nx).wf = true) (hw : Wf x)
    (h : ∀ i : Nat, i + 1 < x.length → rd x ((i + 1 : Nat) : Int) = wrap64 (rd x (i : Int) + st)) (hl : ∀ i : Nat, i + 1 = x.length → nx = wrap64 (rd x (i : Int) + st)) : Evn (fun k => casketlaw04_DeltaEven.l0 k st cnt true x nx (x.length : Int)) true := by
  induction d generalizing x nx with
  | zero =>
    have hs : x.length < 17592186044416 := by omega
    refine Evn.succ (G := fun k => casketlaw04_DeltaEven.j1 k true x (D 2 x) (D 3 x) false) ?_ fun k => ?_
    · refine Evn.succ (even_end x _ _ (D_length _ _) (D_length _ _) hs (even_D2 x st h hst hw) (even_D3 x st h hst hw) x.length 0 (by omega)) fun k => ?_
      simp only [casketlaw04_DeltaEven.j1]
      rw [if_neg (by simp)]
      rfl
    · simp only [casketlaw04_DeltaEven.l0]
      rw [hc, if_neg (by omega), Diff_eq x 2 (by omega) (by omega) hs, Option.bind_some, Diff_eq x 3 (by omega) (by omega) hs, Option.bind_some, if_pos (by simp [D_length])]
      congr 1
      simp [D_length]
  | succ d ih =>
    refine Evn.succ (ih (x ++ [nx]) (wrap64 (nx + st)) (by simp; omega) (by simp; omega) (wf_wrap _) (wf_append hw (fun y hy => by rw [List.mem_singleton.1 hy]; exact hnx)) (fun i hi => ?_) (fun i hi => ?_)) fun k => ?_
    · rw [List.length_append, List.length_singleton] at hi
      rw [rd_left _ _ (i : Int) (by omega) (by omega)]
      rcases Nat.lt_or_ge (i + 1) x.length with c | c
      · rw [rd_left _ _ _ (by omega) (by omega)]
        exact h i c
      · have e : i + 1 = x.length := by omega
        rw [rd_mid _ _ _ _ (by omega)]
        exact hl i e
    · rw [List.length_append, List.length_singleton] at hi
      rw [rd_mid _ _ _ _ (by omega)]
    · simp only [casketlaw04_DeltaEven.l0]
      rw [hc, if_pos (by omega), if_pos (by omega), show wrap64 ((x.length : Int) + 1) = ((x.length + 1 : Nat) : Int) by unfold wrap64; omega]
      simp
theorem and127 (c : Int) (h : -9223372036854775808 ≤ c ∧ c ≤ 9223372036854775807) : Go.bits .and .i64 c 127 = c % 128 := and_mask c 7 (by decide)
theorem DeltaEven : casketlaw04_DeltaEven.Pure := by
  intro a st c ha hst hc
  refine Evn.get (g := fun k => casketlaw04_DeltaEven.f k a st c) ?_
  unfold casketlaw04_DeltaEven.f
  refine Evn.bind awake_ev ?_
  have e := and127 c (wf64 hc)
  exact even_loop st (c % 128) (by omega) (wf64 hst) c e (c % 128).toNat [] a (by simp) (by simp) ha (fun _ h => by cases h) (fun i h => by simp at h) (fun i h => by simp at h)

end Go.Proofs.Ytlpejnkpkcnkmaa.Pure
