/- For every list of ints, every k from 0 to 3 and every cut: Diff and Sum of a list that is cut off are those of the whole, cut off there; the first number stays (lists of at most 1000). No condition. -/
import Derived.Test.YtlpejnkpkcnkmaaPlain
import Derived.Test.YtlpejnkpkcnkmaaPx6
namespace Go.Proofs.Ytlpejnkpkcnkmaa.Pure
open Go.RowKit Go.Proofs.Ytlpejnkpkcnkmaa.P Go.Proofs.Ytlpejnkpkcnkmaa.Kit Go.Proofs.Ytlpejnkpkcnkmaa.Plain Go.Proofs.YtlpejnkpkcnkmaaW.PrintWords Go.Proofs.YtlpejnkpkcnkmaaW.PrintLast Go.Proofs.YtlpejnkpkcnkmaaW.PrintMore
set_option linter.unusedVariables false
set_option linter.unusedSimpArgs false

theorem first_quit (l : List Int) (a c : Int) : Evn (fun k => casketlaw04_DeltaFirst.j0 k l a c true true) true := by
  refine Evn.succ (Evn.pure _) fun k => ?_
  simp only [casketlaw04_DeltaFirst.j0]
  rw [if_pos trivial]
theorem first_main (l : List Int) (a c : Int) (h0 : 0 ≤ a) (h3 : a ≤ 3) (hs : l.length < 17592186044416) : Evn (fun k => casketlaw04_DeltaFirst.j0 k l a c true false) true := by
  have e : Go.bits .and .i64 c 1023 = c % 1024 := and_mask c 10 (by decide)
  obtain ⟨m, hm⟩ : ∃ m : Nat, c % 1024 = (m : Int) := ⟨(c % 1024).toNat, by omega⟩
  by_cases hc : (m : Int) > (l.length : Int)
  · refine Evn.succ (Evn.pure _) fun k => ?_
    simp only [casketlaw04_DeltaFirst.j0]
    rw [if_neg (by simp), e, hm, if_pos hc]
  · have hsD := hs
    refine Evn.succ (G := fun k => (delta_Sum.f k l a).bind fun bt226 => (delta_Sum.f k (l.take m) a).bind fun bt231 => casketlaw04_DeltaFirst.j1 k l true (m : Int) (D a.toNat l) (D a.toNat (l.take m)) bt226.1 bt231.1 ((bt226.1.length : Int) != (l.length : Int))) ?_ fun k => ?_
    · refine Evn.bind (Sum_eq l a h0 h3 hs) ?_
      refine Evn.bind (Sum_eq _ a h0 h3 (by simp; omega)) ?_
      refine Evn.succ (G := fun k => (casketlaw04_same.f k ((D a.toNat l).take m) (D a.toNat (l.take m))).bind fun t => if t = true then (casketlaw04_same.f k ((S a.toNat l).take m) (S a.toNat (l.take m))).bind fun t => if t = true then some true else some false else some false) ?_ fun k => ?_
      · rw [D_take, S_take]
        refine Evn.bind (same_self _ (by simp [D_length]; omega)) (Evn.pos rfl ?_)
        exact Evn.bind (same_self _ (by simp [S_length]; omega)) (Evn.pos rfl (Evn.pure _))
      · simp only [casketlaw04_DeltaFirst.j1]
        rw [if_neg (by simp [S_length]), if_pos trivial, if_pos (by omega), if_pos (by rw [D_length]; omega)]
        congr 1
        funext t
        split
        · rw [if_pos (by rw [S_length]; omega), Int.toNat_natCast]
          congr 1
          funext t
          split
          · by_cases hz : l.length = 0
            · rw [if_pos (by omega)]
            · rw [if_neg (by omega), if_pos (by rw [D_length]; omega), if_pos (by omega), if_pos (rd_zero_D _ _ (by omega)), if_pos (by rw [S_length]; omega), rd_zero_S _ _ (by omega)]
              simp
          · rfl
        · rfl
    · simp only [casketlaw04_DeltaFirst.j0]
      rw [if_neg (by simp), e, hm, if_neg hc, Diff_eq l a h0 h3 hs, Option.bind_some, if_pos (by omega), if_pos (by omega), Int.toNat_natCast, Diff_eq _ a h0 h3 (by simp; omega), Option.bind_some]
      congr 1
      funext b
      congr 1
      funext b2
      rw [if_pos (by simp [D_length])]
theorem DeltaFirst : casketlaw04_DeltaFirst.Pure := by
  intro l a c hm h8 hw ha hcw
  refine Evn.get (g := fun k => casketlaw04_DeltaFirst.f k l a c) ?_
  unfold casketlaw04_DeltaFirst.f
  refine Evn.bind awake_ev ?_
  by_cases h : (l.length : Int) > 1000
  · exact Evn.pos h (first_quit l a c)
  · refine Evn.neg h ?_
    by_cases h0 : a < 0
    · exact Evn.pos h0 (first_quit l a c)
    · refine Evn.neg h0 ?_
      by_cases h3 : a > 3
      · rw [show decide (a > 3) = true by simpa using h3]
        exact first_quit l a c
      · rw [show decide (a > 3) = false by simpa using h3]
        exact first_main l a c (by omega) (by omega) (by omega)

end Go.Proofs.Ytlpejnkpkcnkmaa.Pure
